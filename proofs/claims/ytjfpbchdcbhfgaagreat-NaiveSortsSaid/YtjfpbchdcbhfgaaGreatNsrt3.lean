/- Part 3 of the proof: BRel BRun BSim BTab. -/
import Derived.Test.YtjfpbchdcbhfgaaGreatNsrt2
namespace Go.Proofs.YtjfpbchdcbhfgaaGreat.B
open Go Go.RowKit
variable {U:Uni} {P:Program}
inductive VRel (E:Enc U) (St:Nat→Nat→Prop) (w:World) : Value→V U→Prop
 | s (x:Value) (h:oneC x=true) : VRel E St w x (.s x)
 | nil (τ:U.Ty) (a:Option Addr) (cap:Nat) : VRel E St w (.slice a 0 cap) (.dat τ [])
 | dat (τ:U.Ty) (xs:List (U.Den τ)) (b o cap:Nat) (cv:Nat→Nat→Value) (hcap:xs.length≤cap∧xs.length≤9223372036854775807)
   (h1:∀ i j,i<xs.length→j<U.sz τ→St b (o+i*U.sz τ+j)∧w.cell? ⟨b,o+i*U.sz τ+j,none⟩=some (cv i j))
   (h2:∀ i (hi:i<xs.length) j d,(E.enc τ xs[i])[j]? = some d→VRel E St w (cv i j) d) :
   VRel E St w (.slice (some ⟨b,o,none⟩) xs.length cap) (.dat τ xs)
def Keeps (St:Nat→Nat→Prop) (w:World) (St':Nat→Nat→Prop) (w':World) : Prop :=
 ∀ b o,St b o→St' b o∧w'.cell? ⟨b,o,none⟩=w.cell? ⟨b,o,none⟩
theorem Keeps.refl (St:Nat→Nat→Prop) (w:World) : Keeps St w St w:=fun _ _ h=>⟨h,rfl⟩
theorem Keeps.trans {St St' St'':Nat→Nat→Prop} {w w' w'':World} (h:Keeps St w St' w') (k:Keeps St' w' St'' w'') : Keeps St w St'' w'' :=
 fun b o hs=>⟨(k b o (h b o hs).1).1,(k b o (h b o hs).1).2.trans (h b o hs).2⟩
theorem VRel.mono {E:Enc U} {St St':Nat→Nat→Prop} {w w':World} {v:Value} {d:V U} (h:VRel E St w v d)
  (hs:Keeps St w St' w') : VRel E St' w' v d:=by
 induction h with
 | s x h=>exact .s x h
 | nil τ a cap=>exact .nil τ a cap
 | dat τ xs b o cap cv hcap h1 h2 ih =>
  refine .dat τ xs b o cap cv hcap (fun i j hi hj=>?_) ih
  obtain⟨g1,g2⟩:=h1 i j hi hj
  obtain⟨g3,g4⟩:=hs _ _ g1
  exact⟨g3,by rw[g4];exact g2⟩
theorem VRel.inv {E:Enc U} {St:Nat→Nat→Prop} {w:World} {v:Value} {τ:U.Ty} {xs:List (U.Den τ)} (h:VRel E St w v (.dat τ xs)) :
  (xs=[]∧∃ a cap,v=.slice a 0 cap)∨∃ (b o cap:Nat) (cv:Nat→Nat→Value),v=.slice (some ⟨b,o,none⟩) xs.length cap∧(xs.length≤cap∧xs.length≤9223372036854775807) ∧
   (∀ i j,i<xs.length→j<U.sz τ→St b (o+i*U.sz τ+j)∧w.cell? ⟨b,o+i*U.sz τ+j,none⟩=some (cv i j)) ∧
   (∀ i (hi:i<xs.length) j d,(E.enc τ xs[i])[j]? = some d→VRel E St w (cv i j) d):=by
 cases h with
 | nil _ a cap=>exact .inl ⟨rfl,a,cap,rfl⟩
 | dat _ _ b o cap cv hcap h1 h2=>exact .inr ⟨b,o,cap,cv,rfl,hcap,h1,h2⟩
theorem VRel.one {E:Enc U} {St:Nat→Nat→Prop} {w:World} {v:Value} {d:V U} (h:VRel E St w v d) : oneC v=true:=by
 cases h<;>first | rfl | assumption
def All2 {α β:Type} (R:α→β→Prop) : List α→List β→Prop
 | [],[]=>True
 | a::l,b::r=>R a b∧All2 R l r
 | _,_=>False
section
variable {α β:Type} {R R':α→β→Prop}
theorem All2.length : ∀ {l:List α} {r:List β},All2 R l r→l.length=r.length
 | [],[],_=>rfl
 | _::_,_::_,h=>by simp [All2.length h.2]
theorem All2.imp (h:∀ a b,R a b→R' a b) : ∀ {l:List α} {r:List β},All2 R l r→All2 R' l r
 | [],[],_=>trivial
 | _::_,_::_,hh=>⟨h _ _ hh.1,All2.imp h hh.2⟩
theorem All2.append : ∀ {l l':List α} {r r':List β},All2 R l r→All2 R l' r'→All2 R (l++l') (r++r')
 | [],_,[],_,_,h=>h
 | _::_,_,_::_,_,h,h'=>⟨h.1,All2.append h.2 h'⟩
theorem All2.drop : ∀ (n:Nat) {l:List α} {r:List β},All2 R l r→All2 R (l.drop n) (r.drop n)
 | 0,_,_,h=>h
 | _+1,[],[],_=>trivial
 | n+1,_::_,_::_,h=>All2.drop n h.2
theorem All2.take : ∀ (n:Nat) {l:List α} {r:List β},All2 R l r→All2 R (l.take n) (r.take n)
 | 0,l,r,_=>by simp [All2]
 | _+1,[],[],_=>trivial
 | n+1,_::_,_::_,h=>⟨h.1,All2.take n h.2⟩
theorem All2.get : ∀ {l:List α} {r:List β} (i:Nat) {b:β},All2 R l r→r[i]? = some b→∃ a,l[i]? = some a∧R a b
 | a::_,b::_,0,_,h,e=>by simp at e;subst e;exact⟨a,rfl,h.1⟩
 | _::_,_::_,i+1,_,h,e=>All2.get (l:=_) i h.2 (by simpa using e)
 | [],[],_,_,_,e=>by simp at e
theorem All2.get' : ∀ {l:List α} {r:List β} (i:Nat) {a:α},All2 R l r→l[i]? = some a→∃ b,r[i]? = some b∧R a b
 | _::_,b::_,0,_,h,e=>by simp at e;subst e;exact⟨b,rfl,h.1⟩
 | _::_,_::_,i+1,_,h,e=>All2.get' (r:=_) i h.2 (by simpa using e)
 | [],[],_,_,_,e=>by simp at e
theorem All2.set : ∀ {l:List α} {r:List β} (i:Nat) {a:α} {b:β},All2 R l r→R a b→All2 R (l.set i a) (r.set i b)
 | [],[],_,_,_,_,_=>trivial
 | _::_,_::_,0,_,_,h,hab=>⟨hab,h.2⟩
 | _::_,_::_,i+1,_,_,h,hab=>⟨h.1,All2.set i h.2 hab⟩
theorem All2.map_right {γ:Type} {R':α→γ→Prop} (f:β→γ) (h:∀ a b,R a b→R' a (f b)) : ∀ {l:List α} {r:List β},All2 R l r→All2 R' l (r.map f)
 | [],[],_=>trivial
 | _::_,_::_,hh=>⟨h _ _ hh.1,All2.map_right f h hh.2⟩
theorem All2.of_get : ∀ {l:List α} {r:List β},l.length=r.length→(∀ (i:Nat) a b,l[i]? = some a→r[i]? = some b→R a b)→All2 R l r
 | [],[],_,_=>trivial
 | a::l,b::r,hl,h=>⟨h 0 a b rfl rfl,All2.of_get (by simpa using hl) (fun i x y hx hy=>h (i+1) x y (by simpa using hx) (by simpa using hy))⟩
end
def D0Rel (E:Enc U) (St:Nat→Nat→Prop) (w:World) (v:Value) : D0 U→Prop
 | .v x=>VRel E St w v x
 | .agg xs=>∃ arr : Array Value,v=.agg arr∧All2 (VRel E St w) arr.toList xs
def RetRel {α:Type} (R:Value→α→Prop) (v:Value) : List α→Prop
 | [d]=>R v d
 | ds=>∃ arr : Array Value,v=.tuple arr∧All2 R arr.toList ds
theorem RetRel.imp {α:Type} {R R':Value→α→Prop} (hi:∀ a b,R a b→R' a b) {v:Value} {ds:List α} (h:RetRel R v ds) : RetRel R' v ds:=by
 match ds,h with
 | [],h=>obtain⟨arr,h1,h2⟩:=h;exact⟨arr,h1,h2.imp hi⟩
 | [d],h=>exact hi _ _ h
 | _::_::_,h=>obtain⟨arr,h1,h2⟩:=h;exact⟨arr,h1,h2.imp hi⟩
theorem D0Rel.mono {E:Enc U} {St St':Nat→Nat→Prop} {w w':World} (hs:Keeps St w St' w') {v:Value} {d:D0 U} (h:D0Rel E St w v d) : D0Rel E St' w' v d:=by
 cases d with
 | v x=>exact VRel.mono h hs
 | agg xs=>obtain⟨arr,h1,h2⟩:=h;exact⟨arr,h1,h2.imp fun _ _ h=>h.mono hs⟩
def Ret0 (E:Enc U) (St:Nat→Nat→Prop) (w w':World) (v:Value) (rs:List (D0 U)) : Prop :=
 Ext w w'∧∃ St' : Nat→Nat→Prop,(∀ b o,b<w.heap.size→St' b o→St b o)∧(∀ b o,St' b o→b<w'.heap.size)∧RetRel (D0Rel E St' w') v rs
def z22o (ob:List Prop) (w w':World) : Prop:=ob.length=5→w.drawn≤w'.drawn
def z250 (P:Program) (E:Enc U) (f:FuncId) (caps:Array Value) (St:Nat→Nat→Prop) (w:World) (φ:FV U) : Prop :=
 ∀ (St':Nat→Nat→Prop) (w':World),Keeps St w St' w'→(∀ b o,St' b o→b<w'.heap.size)→Laid w'→∀ (args:List (D0 U)) (ob:List Prop) (rs:List (D0 U)),φ args=some (ob,rs)→(∀ p∈ob,p) →
  ∀ vs : List Value,All2 (D0Rel E St' w') vs args→Calls P f (vs.toArray++caps) w' fun e w''=>∃ v,e=.returned v∧Ret0 E St' w' w'' v rs∧z22o ob w' w''
def z3q (P : Program) (f : FuncId) : Prop := ∃ fn c, P.funcs[f]? = some fn ∧ fn.body = some c ∧ (fn.name == "runtime.NumGoroutine") = false
def FunRel (P:Program) (E:Enc U) (St:Nat→Nat→Prop) (w:World) (v:Value) (φ:FV U) : Prop :=
 ∃ (f:FuncId) (caps:Array Value),v=.func (.func f) #[] caps∧z3q P f∧z250 P E f caps St w φ
theorem FunRel.mono {E:Enc U} {St St':Nat→Nat→Prop} {w w':World} (hs:Keeps St w St' w') {v:Value} {φ:FV U} (h:FunRel P E St w v φ) : FunRel P E St' w' v φ:=by
 obtain⟨f,caps,h1,h2,h3⟩:=h
 exact⟨f,caps,h1,h2,fun St'' w'' hk=>h3 St'' w'' (hs.trans hk)⟩
theorem FunRel.one {E:Enc U} {St:Nat→Nat→Prop} {w:World} {v:Value} {φ:FV U} (h:FunRel P E St w v φ) : oneC v=true:=by
 obtain⟨f,caps,rfl,_⟩:=h;rfl
inductive Own
 | st
 | box (k:Nat)
 | obj (k:Nat)
structure G where
 β : Nat→Nat
 lb : Nat→Prop
 ω : Nat→Nat→Option Own
 tk : Nat→Option Addr×Nat
def G.St (g:G) (b o:Nat) : Prop:=g.ω b o=some .st
def z65 (g:G) (ks:List Nat) : Array Value:=(ks.map fun k=>Value.pointer (some ⟨g.β k,0,none⟩)).toArray
def CRel (P:Program) (E:Enc U) (g:G) (ob:List (Option (Ob U))) (w:World) (v:Value) : C U→Prop
 | .s x=>v=x∧oneC x=true
 | .sl τ xs f=>VRel E g.St w v (.dat τ xs)∧(f=true→∃ a n,v=.slice a n n)
 | .ob k ver=>oneC v=true∧∃ o,ob[k]? = some (some o)∧ver≤o.ver∧(ver=o.ver→v=.slice (g.tk k).1 o.xs.length (g.tk k).2)
 | .bx k off=>g.lb k∧v=.pointer (some ⟨g.β k,off,none⟩)
 | .el τ xs i off=>i<xs.length∧∃ b o cap,v=.pointer (some ⟨b,o+i*U.sz τ+off,none⟩)∧VRel E g.St w (.slice (some ⟨b,o,none⟩) xs.length cap) (.dat τ xs)
 | .em k ver i off=>oneC v=true∧∃ o,ob[k]? = some (some o)∧ver≤o.ver∧(ver=o.ver→i<o.xs.length∧∃ b o',(g.tk k).1=some ⟨b,o',none⟩∧v=.pointer (some ⟨b,o'+i*U.sz o.τ+off,none⟩))
 | .fv φ=>FunRel P E g.St w v φ
 | .fc f caps=>v=.func (.func f) #[] (z65 g caps)∧∀ k∈caps,g.lb k
 | .top=>oneC v=true
structure GLe (g:G) (ob:List (Option (Ob U))) (w:World) (g':G) (ob':List (Option (Ob U))) (w':World) : Prop where
 st : Keeps g.St w g'.St w'
 lb : ∀ k,g.lb k→g'.lb k∧g'.β k=g.β k
 ob : ∀ k o,ob[k]? = some (some o)→∃ o',ob'[k]? = some (some o')∧o.ver≤o'.ver∧(o.ver=o'.ver→o'.xs.length=o.xs.length∧U.sz o'.τ=U.sz o.τ∧g'.tk k=g.tk k)
theorem GLe.refl (g:G) (ob:List (Option (Ob U))) (w:World) : GLe g ob w g ob w :=
 ⟨Keeps.refl _ _,fun _ h=>⟨h,rfl⟩,fun _ o h=>⟨o,h,Nat.le_refl _,fun _=>⟨rfl,rfl,rfl⟩⟩⟩
theorem GLe.trans {g g' g'':G} {ob ob' ob'':List (Option (Ob U))} {w w' w'':World} (h:GLe g ob w g' ob' w') (k:GLe g' ob' w' g'' ob'' w'') : GLe g ob w g'' ob'' w'':=by
 refine⟨h.st.trans k.st,fun b hs=>⟨(k.lb b (h.lb b hs).1).1,(k.lb b (h.lb b hs).1).2.trans (h.lb b hs).2⟩,fun q o hq=>?_⟩
 obtain⟨o',h1,h2,h3⟩:=h.ob q o hq
 obtain⟨o'',k1,k2,k3⟩:=k.ob q o' h1
 refine⟨o'',k1,Nat.le_trans h2 k2,fun e=>?_⟩
 have e1:o.ver=o'.ver:=by omega
 have e2:o'.ver=o''.ver:=by omega
 obtain⟨a1,a2,a3⟩:=h3 e1
 obtain⟨b1,b2,b3⟩:=k3 e2
 exact⟨b1.trans a1,b2.trans a2,b3.trans a3⟩
theorem CRel.one {E:Enc U} {g:G} {ob:List (Option (Ob U))} {w:World} {v:Value} {c:C U} (hc:CRel P E g ob w v c) : oneC v=true:=by
 cases c with
 | s x=>rw[hc.1];exact hc.2
 | sl τ xs t=>exact hc.1.one
 | ob k ver=>exact hc.1
 | bx k off=>rw[hc.2];rfl
 | el τ xs i off=>obtain⟨_,b,o,cap,h2,_⟩:=hc;rw[h2];rfl
 | em k ver i off=>exact hc.1
 | fv φ=>exact FunRel.one hc
 | fc f caps=>rw[hc.1];rfl
 | top=>exact hc
theorem CRel.mono {E:Enc U} {g g':G} {ob ob':List (Option (Ob U))} {w w':World} (h:GLe g ob w g' ob' w') {v:Value} {c:C U} (hc:CRel P E g ob w v c) : CRel P E g' ob' w' v c:=by
 cases c with
 | s x=>exact hc
 | sl τ xs t=>exact⟨hc.1.mono h.st,hc.2⟩
 | ob k ver =>
  obtain⟨h1,o,h2,h3,h4⟩:=hc
  obtain⟨o',k1,k2,k3⟩:=h.ob k o h2
  refine⟨h1,o',k1,Nat.le_trans h3 k2,fun e=>?_⟩
  obtain⟨a1,_,a3⟩:=k3 (by omega)
  rw[a1,a3];exact h4 (by omega)
 | bx k off=>exact⟨(h.lb k hc.1).1,by rw[(h.lb k hc.1).2];exact hc.2⟩
 | el τ xs i off =>
  obtain⟨h1,b,o,cap,h2,h3⟩:=hc
  exact⟨h1,b,o,cap,h2,h3.mono h.st⟩
 | em k ver i off =>
  obtain⟨h1,o,h2,h3,h4⟩:=hc
  obtain⟨o',k1,k2,k3⟩:=h.ob k o h2
  refine⟨h1,o',k1,Nat.le_trans h3 k2,fun e=>?_⟩
  obtain⟨a1,a2,a3⟩:=k3 (by omega)
  obtain⟨c1,b,o'',c2,c3⟩:=h4 (by omega)
  exact⟨by rw[a1];exact c1,b,o'',by rw[a3];exact c2,by rw[a2];exact c3⟩
 | fv φ=>exact FunRel.mono h.st hc
 | fc f caps =>
  refine⟨?_,fun k hk=>(h.lb k (hc.2 k hk)).1⟩
  rw[hc.1]
  unfold z65
  congr 2
  refine List.map_congr_left fun k hk=>?_
  rw[(h.lb k (hc.2 k hk)).2]
 | top=>exact hc
def ARel (P:Program) (E:Enc U) (g:G) (ob:List (Option (Ob U))) (w:World) (v:Value) : A U→Prop
 | .c x=>CRel P E g ob w v x
 | .agg cs=>∃ arr : Array Value,v=.agg arr∧All2 (CRel P E g ob w) arr.toList cs
 | .top=>True
def AVRel (P:Program) (E:Enc U) (g:G) (ob:List (Option (Ob U))) (w:World) (v:Value) : AV U→Prop
 | .one a=>ARel P E g ob w v a
 | .tup al=>∃ arr : Array Value,v=.tuple arr∧All2 (ARel P E g ob w) arr.toList al
 | .undef=>v=undef
theorem ARel.mono {E:Enc U} {g g':G} {ob ob':List (Option (Ob U))} {w w':World} (h:GLe g ob w g' ob' w') {v:Value} {a:A U} (ha:ARel P E g ob w v a) : ARel P E g' ob' w' v a:=by
 cases a with
 | c x=>exact CRel.mono h ha
 | agg cs=>obtain⟨arr,h1,h2⟩:=ha;exact⟨arr,h1,h2.imp fun _ _=>CRel.mono h⟩
 | top=>trivial
theorem AVRel.mono {E:Enc U} {g g':G} {ob ob':List (Option (Ob U))} {w w':World} (h:GLe g ob w g' ob' w') {v:Value} {a:AV U} (ha:AVRel P E g ob w v a) : AVRel P E g' ob' w' v a:=by
 cases a with
 | one a=>exact ARel.mono h ha
 | tup al=>obtain⟨arr,h1,h2⟩:=ha;exact⟨arr,h1,h2.imp fun _ _=>ARel.mono h⟩
 | undef=>exact ha
theorem zlo {E:Enc U} {g:G} {ob:List (Option (Ob U))} {w:World} {v:Value} {rs:List (A U)} : AVRel P E g ob w v (zgc rs)↔RetRel (ARel P E g ob w) v rs:=by
 match rs with
 | []=>exact Iff.rfl
 | [_]=>exact Iff.rfl
 | _::_::_=>exact Iff.rfl
def BoxRel (P:Program) (E:Enc U) (g:G) (ob:List (Option (Ob U))) (w:World) (k:Nat) (fz:Bool) (cells:List (C U)) : Prop :=
 ∃ vs : List Value,All2 (CRel P E g ob w) vs cells∧∀ (i:Nat) v,vs[i]? = some v→w.cell? ⟨g.β k,i,none⟩=some v ∧
  (fz=false→stuck w ⟨g.β k,i,none⟩=false∧g.ω (g.β k) i=some (.box k))∧(fz=true→g.St (g.β k) i)
def Mode (g:G) (w:World) (k:Nat) (fr:Option Nat) (i b o:Nat) : Prop :=
 match fr with
 | none=>g.St b o
 | some f=>(i<f→g.St b o)∧(f≤i→g.ω b o=some (.obj k)∧stuck w ⟨b,o,none⟩=false)
structure ObAt (E:Enc U) (g:G) (w:World) (k:Nat) (o:Ob U) (b off cap:Nat) (cv:Nat→Nat→Value) : Prop where
 cell : ∀ i j,i<o.xs.length→j<U.sz o.τ→w.cell? ⟨b,off+i*U.sz o.τ+j,none⟩=some (cv i j)∧Mode g w k o.fr i b (off+i*U.sz o.τ+j)
 rel : ∀ i (hi:i<o.xs.length) j d,(E.enc o.τ o.xs[i])[j]? = some d→VRel E g.St w (cv i j) d
 spare : o.live=true→∀ x,o.xs.length*U.sz o.τ≤x→x<cap*U.sz o.τ→g.ω b (off+x)=some (.obj k)∧(∃ v,w.cell? ⟨b,off+x,none⟩=some v)∧stuck w ⟨b,off+x,none⟩=false
def ObRel (E:Enc U) (g:G) (w:World) (k:Nat) (o:Ob U) : Prop :=
 ((o.xs.length≤(g.tk k).2∧o.xs.length≤9223372036854775807)∧∀ f,o.fr=some f→f≤o.xs.length)∧(0<(g.tk k).2→∃ b off cv,(g.tk k).1=some ⟨b,off,none⟩∧ObAt E g w k o b off (g.tk k).2 cv)
structure Fr where
 w0 : World
 own : Nat→Nat→Prop
 st : Nat→Nat→Prop
 nb : Nat
 β : Nat→Nat
structure FExt (fr:Fr) (w:World) : Prop where
 os : w.os=fr.w0.os
 tape : w.tape=fr.w0.tape
 output : w.output=fr.w0.output
 size : fr.w0.heap.size≤w.heap.size
 block : ∀ k,k<fr.w0.heap.size→(∀ o,¬ fr.own k o)→w.heap[k]? = fr.w0.heap[k]?
 cell : ∀ b o,b<fr.w0.heap.size→¬ fr.own b o→w.cell? ⟨b,o,none⟩=fr.w0.cell? ⟨b,o,none⟩
 frozen : ∀ b o,b<fr.w0.heap.size→¬ fr.own b o→stuck w ⟨b,o,none⟩=stuck fr.w0 ⟨b,o,none⟩
 laid : Laid w
 lb0 : ∀ b,LB b=true→b<fr.w0.heap.size
 nlb : ∀ b o,LB b=true→¬ fr.own b o
structure Sim (P:Program) (E:Enc U) (fr:Fr) (g:G) (s:S U) (a:Act) (w:World) : Prop where
 ext : FExt fr w
 tms : All2 (AVRel P E g s.ob w) a.tmps.toList s.tm
 bxs : ∀ k fz cells,s.bx[k]? = some (some (fz,cells))→g.lb k∧BoxRel P E g s.ob w k fz cells
 lbs : ∀ k,g.lb k→∃ c,s.bx[k]? = some (some c)
 obs : ∀ k o,s.ob[k]? = some (some o)→ObRel E g w k o
 own : ∀ b o x,g.ω b o=some x→b<w.heap.size∧(fr.w0.heap.size≤b∨fr.own b o∨(x=.st∧fr.st b o))
 dfr : a.defers=[]
 fix : ∀ k,k<fr.nb→g.lb k→g.β k=fr.β k
 bas : fr.nb≤s.base
theorem Sim.wr {E:Enc U} {fr:Fr} {g:G} {s:S U} {a:Act} {w:World} (h:Sim P E fr g s a w) {b o:Nat} {x:Own} (hx:g.ω b o=some x) (hne:x≠.st) : fr.w0.heap.size≤b∨fr.own b o:=by
 rcases (h.own b o x hx).2 with h1 | h1 | ⟨h1,_⟩
 ·exact .inl h1
 ·exact .inr h1
 ·exact (hne h1).elim
theorem Sim.nlb {E:Enc U} {fr:Fr} {g:G} {s:S U} {a:Act} {w:World} (h:Sim P E fr g s a w) {b o:Nat} {x:Own} (hl:LB b=true) (hx:g.ω b o=some x) : x=.st:=by
 rcases (h.own b o x hx).2 with h1 | h1 | ⟨h1,_⟩
 ·exact absurd (h.ext.lb0 b hl) (by omega)
 ·exact (h.ext.nlb b o hl h1).elim
 ·exact h1
end Go.Proofs.YtjfpbchdcbhfgaaGreat.B
namespace Go.Proofs.YtjfpbchdcbhfgaaGreat.B
open Go Go.RowKit
variable {P:Program}
theorem zc7 (b o i:Nat) : (⟨b,o,none⟩ : Addr).add i=⟨b,o+i,none⟩:=by
 unfold Addr.add;split
 ·rename_i h;subst h;rfl
 ·rfl
theorem zn1 (w:World) (b o:Nat) : ∀ (vs:List Value) (i:Nat) (acc:Array Value),(∀ (j:Nat) v,vs[j]? = some v→w.cell? ⟨b,o+i+j,none⟩=some v) →
  (loadCellsFrom ⟨b,o,none⟩ i vs.length acc).run P w=.ok (acc++vs.toArray) w
 | [],i,acc,_=>by simp [loadCellsFrom]
 | v::vs,i,acc,h=>by
  have h0:=h 0 v rfl
  have ih:=zn1 w b o vs (i+1) (acc.push v) (fun j u hu=>by
   have:=h (j+1) u (by simpa using hu)
   rw[show o+(i+1)+j=o+i+(j+1) from by omega];exact this)
  simp only[List.length_cons,loadCellsFrom,Sem.run_bind,run_load,zc7,Nat.add_zero] at h0 ⊢
  rw[h0]
  simp only[Result.andThen_ok]
  rw[ih]
  congr 1
  simp
theorem zmf (w:World) (b o:Nat) (vs:List Value) (h:∀ (j:Nat) v,vs[j]? = some v→w.cell? ⟨b,o+j,none⟩=some v) :
  (loadCells ⟨b,o,none⟩ vs.length).run P w=.ok vs.toArray w:=by
 unfold loadCells
 rw[zn1 w b o vs 0 #[] (by simpa using h)]
 simp
structure Stored (w w':World) (b o:Nat) (vs:List Value) : Prop where
 os : w'.os=w.os
 tape : w'.tape=w.tape
 output : w'.output=w.output
 size : w'.heap.size=w.heap.size
 block : ∀ k,k≠b→w'.heap[k]? = w.heap[k]?
 cell : ∀ (i:Nat) v,vs[i]? = some v→w'.cell? ⟨b,o+i,none⟩=some v
 other : ∀ p : Addr,(p.off<o∨o+vs.length≤p.off∨p.block≠b)→w'.cell? p=w.cell? p
 frozen : ∀ p : Addr,stuck w' p=stuck w p
 same : vs=[]→w'=w
theorem z1fu {v:Value} (h:oneC v=true) : v.oneCell'=true:=by cases v<;>first | rfl | simp [oneC] at h
theorem zeg : ∀ (vs:List Value) (w:World) (b o i:Nat),(∀ v∈vs,oneC v=true) →
  (∀ (j:Nat),j<vs.length→(∃ u,w.cell? ⟨b,o+i+j,none⟩=some u)∧stuck w ⟨b,o+i+j,none⟩=false) →
  ∃ w',(storeCells ⟨b,o,none⟩ vs i).run P w=.ok () w'∧Stored w w' b (o+i) vs
 | [],w,b,o,i,_,_=>⟨w,by simp [storeCells],⟨rfl,rfl,rfl,rfl,fun _ _=>rfl,fun i v h=>by simp at h,fun _ _=>rfl,fun _=>rfl,fun _=>rfl⟩⟩
 | v::vs,w,b,o,i,hv,hc=>by
  obtain⟨⟨u,hu⟩,hf⟩:=hc 0 (by simp)
  simp only[Nat.add_zero] at hu hf
  obtain⟨w',hr,hs⟩:=zeg vs (w.setCell ⟨b,o+i,none⟩ v) b o (i+1) (fun x hx=>hv x (by simp [hx])) (fun j hj=>by
   obtain⟨⟨x,hx⟩,hfx⟩:=hc (j+1) (by simp;omega)
   refine⟨⟨x,?_⟩,?_⟩
   ·rw[World.cell?_setCell_other _ _ _ _ (by simp)]
    rw[show o+(i+1)+j=o+i+(j+1) from by omega];exact hx
   ·rw[zme,show o+(i+1)+j=o+i+(j+1) from by omega];exact hfx)
  refine⟨w',?_,⟨hs.os,hs.tape,hs.output,by rw[hs.size];simp,fun k hk=>by rw[hs.block k hk];exact Below.heap_setCell _ _ _ _ hk,?_,?_,?_,by simp⟩⟩
  ·simp only[storeCells,Sem.run_bind,zc7]
   rw[run_store P w _ v .plain (z1fu (hv v (by simp))),hu]
   simp only[zjn hf,Bool.false_eq_true,if_false,Result.andThen_ok]
   exact hr
  ·intro j x hx
   cases j with
   | zero =>
    simp at hx;subst hx
    rw[Nat.add_zero,hs.other _ (by left;show o+i<o+(i+1);omega)]
    exact World.cell?_setCell_same _ _ _ hu
   | succ j =>
    have:=hs.cell j x (by simpa using hx)
    rw[show o+i+(j+1)=o+(i+1)+j from by omega];exact this
  ·intro p hp
   simp only[List.length_cons] at hp
   rw[hs.other p (by omega)]
   exact World.cell?_setCell_other _ _ _ _ (by rintro rfl;simp at hp;omega)
  ·intro p;rw[hs.frozen];exact zme _ _ _ _
end Go.Proofs.YtjfpbchdcbhfgaaGreat.B
namespace Go.Proofs.YtjfpbchdcbhfgaaGreat.B
open Go Go.RowKit
variable {U:Uni} {P:Program} {E:Enc U} {fr:Fr} {w:World} {g:G} {s:S U} {a:Act}
theorem z1s0 {l:Array Value} {t:Nat} {v:Value} (h:l.toList[t]? = some v) : l.getD t undef=v:=by
 rw[Array.getElem?_toList] at h
 simp [Array.getD_eq_getD_getElem?,h]
theorem Sim.slot (h:Sim P E fr g s a w) {t:Nat} {x:AV U} (hx:s.tm[t]? = some x) : AVRel P E g s.ob w (a.tmps.getD t undef) x:=by
 obtain⟨v,hv,hr⟩:=All2.get t h.tms hx
 rw[z1s0 hv];exact hr
theorem zwe (l:Array Value) (d:Nat) (v:Value) : (l.setIfInBounds d v).toList=l.toList.set d v:=by simp
theorem Sim.put (h:Sim P E fr g s a w) {dst:Option Nat} {v:Value} {r:Res U} (hv:AVRel P E g s.ob w v r.v) (hb:r.bw=[]) (ho:r.ow=[]) : Sim P E fr g (s.upd dst r) (a.put dst v) w:=by
 unfold S.upd
 rw[hb,ho]
 cases dst with
 | none=>exact h
 | some d =>
  have ht:All2 (AVRel P E g s.ob w) (a.tmps.setIfInBounds d v).toList (s.tm.set d r.v):=by
   rw[zwe];exact All2.set d h.tms hv
  exact { h with tms:=ht }
theorem Sim.put' {s':S U} {dst:Option Nat} {v:Value} {r:Res U} (h:Sim P E fr g { s with bx:=sets s.bx r.bw,ob:=sets s.ob r.ow } a w) (hv:AVRel P E g (sets s.ob r.ow) w v r.v) : Sim P E fr g (s.upd dst r) (a.put dst v) w:=by
 cases dst with
 | none=>exact h
 | some d =>
  have ht:All2 (AVRel P E g (sets s.ob r.ow) w) (a.tmps.setIfInBounds d v).toList (s.tm.set d r.v):=by
   rw[zwe];exact All2.set d h.tms hv
  exact { h with tms:=ht }
def Same (g:G) (w:World) (g':G) (w':World) (x:Own) : Prop :=
 ∀ b o,g.ω b o=some x→g'.ω b o=some x∧w'.cell? ⟨b,o,none⟩=w.cell? ⟨b,o,none⟩∧stuck w' ⟨b,o,none⟩=stuck w ⟨b,o,none⟩
theorem Same.keeps {g g':G} {w w':World} (h:Same g w g' w' .st) : Keeps g.St w g'.St w':=fun b o hs=>⟨(h b o hs).1,(h b o hs).2.1⟩
theorem BoxRel.keep {g g':G} {ob ob':List (Option (Ob U))} {w w':World} {k:Nat} {fz:Bool} {cells:List (C U)} (h:BoxRel P E g ob w k fz cells) (hl:g.lb k) (hg:GLe g ob w g' ob' w') (hs:Same g w g' w' (.box k)) :
  BoxRel P E g' ob' w' k fz cells:=by
 obtain⟨vs,h1,h2⟩:=h
 refine⟨vs,h1.imp fun _ _=>CRel.mono hg,fun i v hv=>?_⟩
 obtain⟨i1,i2,i3⟩:=h2 i v hv
 rw[(hg.lb k hl).2]
 cases fz with
 | false =>
  obtain⟨j1,j2⟩:=i2 rfl
  obtain⟨k1,k2,k3⟩:=hs _ _ j2
  exact⟨by rw[k2];exact i1,fun _=>⟨by rw[k3];exact j1,k1⟩,by simp⟩
 | true =>
  obtain⟨k1,k2⟩:=hg.st _ _ (i3 rfl)
  exact⟨by rw[k2];exact i1,by simp,fun _=>k1⟩
theorem ObRel.keep {g g':G} {w w':World} {k:Nat} {o:Ob U} (h:ObRel E g w k o) (hk:Keeps g.St w g'.St w') (hs:Same g w g' w' (.obj k)) (ht:g'.tk k=g.tk k) : ObRel E g' w' k o:=by
 obtain⟨h1,h2⟩:=h
 refine⟨by rw[ht];exact h1,fun hc=>?_⟩
 rw[ht] at hc ⊢
 obtain⟨b,off,cv,e,hA⟩:=h2 hc
 refine⟨b,off,cv,e,⟨fun i j hi hj=>?_,fun i hi j d hd=>(hA.rel i hi j d hd).mono hk,fun hl x hx hx'=>?_⟩⟩
 ·obtain⟨c1,c2⟩:=hA.cell i j hi hj
  unfold Mode at c2 ⊢
  split at c2
  ·obtain⟨k1,k2⟩:=hk _ _ c2
   exact⟨by rw[k2];exact c1,k1⟩
  ·rename_i f hf
   rcases Nat.lt_or_ge i f with hlt | hge
   ·obtain⟨k1,k2⟩:=hk _ _ (c2.1 hlt)
    exact⟨by rw[k2];exact c1,fun _=>k1,fun hh=>by omega⟩
   ·obtain⟨d1,d2⟩:=c2.2 hge
    obtain⟨k1,k2,k3⟩:=hs _ _ d1
    exact⟨by rw[k2];exact c1,fun hh=>by omega,fun _=>⟨k1,by rw[k3];exact d2⟩⟩
 ·obtain⟨d1,⟨v,d2⟩,d3⟩:=hA.spare hl x hx hx'
  obtain⟨k1,k2,k3⟩:=hs _ _ d1
  exact⟨k1,⟨v,by rw[k2];exact d2⟩,by rw[k3];exact d3⟩
theorem FExt.later {w w':World} (h:FExt fr w) (hb:Ext w w') : FExt fr w' :=
  ⟨hb.os.trans h.os,hb.tape.trans h.tape,hb.output.trans h.output,Nat.le_trans h.size hb.le,
   fun k hk ho=>(hb.block (Nat.lt_of_lt_of_le hk h.size)).trans (h.block k hk ho),
   fun b o hk ho=>(hb.cell (p:=⟨b,o,none⟩) (Nat.lt_of_lt_of_le hk h.size)).trans (h.cell b o hk ho),
   fun b o hk ho=>(hb.stuck (p:=⟨b,o,none⟩) (Nat.lt_of_lt_of_le hk h.size)).trans (h.frozen b o hk ho),
   h.laid.ext hb,h.lb0,h.nlb⟩
theorem FExt.stored {w w':World} {b off:Nat} {vs:List Value} (h:FExt fr w) (hst:Stored w w' b off vs) (ho:∀ (i:Nat),i<vs.length→fr.w0.heap.size≤b∨fr.own b (off+i)) : FExt fr w':=by
 refine⟨hst.os.trans h.os,hst.tape.trans h.tape,hst.output.trans h.output,by rw[hst.size];exact h.size,fun k hk hn=>?_,fun b' o hk hn=>?_,fun b' o hk hn=>(hst.frozen _).trans (h.frozen b' o hk hn),h.laid.on (by rw[hst.size];exact Nat.le_refl _) (fun k hl=>?_),h.lb0,h.nlb⟩
 ·by_cases e : k=b
  ·subst e
   cases vs with
   | nil =>
    have:=hst.same rfl
    rw[this];exact h.block k hk hn
   | cons v vs =>
    rcases ho 0 (by simp) with h1 | h1
    ·omega
    ·exact (hn _ h1).elim
  ·exact (hst.block k e).trans (h.block k hk hn)
 ·refine Eq.trans ?_ (h.cell b' o hk hn)
  refine hst.other _ ?_
  by_cases e : b'=b
  ·subst e
   by_cases h1 : o<off
   ·exact .inl h1
   ·by_cases h2 : off+vs.length≤o
    ·exact .inr (.inl h2)
    ·rcases ho (o - off) (by omega) with h3 | h3
     ·omega
     ·rw[show off+(o - off)=o from by omega] at h3;exact (hn h3).elim
  ·exact .inr (.inr e)
 ·by_cases e : k=b
  ·subst e
   cases vs with
   | nil=>rw[hst.same rfl]
   | cons v vs =>
    rcases ho 0 (by simp) with h1 | h1
    ·exact absurd (h.lb0 k hl) (by omega)
    ·exact (h.nlb k _ hl h1).elim
  ·exact hst.block k e
theorem Sim.later (h:Sim P E fr g s a w) {w':World} (hb:Ext w w') : Sim P E fr g s a w':=by
 have hs:∀ x,Same g w g w' x:=fun x b o hx=>⟨hx,hb.cell (h.own b o x hx).1,hb.stuck (p:=⟨b,o,none⟩) (h.own b o x hx).1⟩
 have hg:GLe g s.ob w g s.ob w':={ GLe.refl g s.ob w with st:=(hs .st).keeps }
 refine { ext:=h.ext.later hb,tms:=h.tms.imp fun _ _=>AVRel.mono hg,bxs:=fun k fz cells hk=>?_,lbs:=h.lbs,obs:=fun k o hk=>(h.obs k o hk).keep hg.st (hs _) rfl,own:=fun b o x hx=>⟨Nat.lt_of_lt_of_le (h.own b o x hx).1 hb.le,(h.own b o x hx).2⟩,dfr:=h.dfr,fix:=h.fix,bas:=h.bas }
 obtain⟨hl,hbx⟩:=h.bxs k fz cells hk
 exact⟨hl,hbx.keep hl hg (hs _)⟩
theorem zlp {St:Nat→Nat→Prop} {ob:List (Option (Ob U))} (hs:St=g.St) {v:Value} {d:V U} (h:VRel E St w v d) : CRel P E g ob w v (C.ofV d):=by
 subst hs
 cases h with
 | s x h=>exact⟨rfl,h⟩
 | nil τ aa cap=>exact⟨.nil τ aa cap,by simp⟩
 | dat τ xs b o cap cv hcap h1 h2=>exact⟨.dat τ xs b o cap cv hcap h1 h2,by simp⟩
theorem zck {α:Type} {f:Nat→α} {n j:Nat} {v:α} (h:((List.range n).map f)[j]? = some v) : j<n∧f j=v:=by
 rw[List.getElem?_map] at h
 rcases Nat.lt_or_ge j n with hj | hj
 ·rw[List.getElem?_range hj] at h;simp at h;exact⟨hj,h⟩
 ·rw[List.getElem?_eq_none (by simpa using hj)] at h;simp at h
theorem z7c {k v:Nat} {o:Ob U} (h:s.obAt k v=some o) : s.ob[k]? = some (some o)∧o.ver=v:=by
 unfold S.obAt at h
 split at h
 ·rename_i o' ho
  split at h
  ·rename_i hb;simp at h;subst h;exact⟨ho,Nat.eq_of_beq_eq_true hb⟩
  ·simp at h
 ·simp at h
theorem Sim.obval (h:Sim P E fr g s a w) {k v:Nat} {o:Ob U} {x:Value} (ho:s.obAt k v=some o) (hx:CRel P E g s.ob w x (.ob k v)) : x=.slice (g.tk k).1 o.xs.length (g.tk k).2∧ObRel E g w k o:=by
 obtain⟨h1,h2⟩:=z7c ho
 obtain⟨_,o',h3,h4,h5⟩:=hx
 rw[h1] at h3;simp at h3;subst h3
 exact⟨h5 h2.symm,h.obs k o h1⟩
theorem Sim.len (h:Sim P E fr g s a w) {c:C U} {τ:U.Ty} {xs:List (U.Den τ)} {x:Value} (hl:s.lst c=some ⟨τ,xs⟩) (hx:CRel P E g s.ob w x c) : ∃ p cap,x=.slice p xs.length cap∧xs.length≤cap∧xs.length≤9223372036854775807:=by
 cases c with
 | sl τ' xs' f =>
  simp [S.lst] at hl;obtain⟨rfl,hl⟩:=hl;simp at hl;subst hl
  rcases hx.1.inv with ⟨rfl,p,cap,rfl⟩ | ⟨b,o,cap,cv,rfl,hcap,_⟩
  ·exact⟨p,cap,rfl,by simp⟩
  ·exact⟨_,cap,rfl,hcap⟩
 | ob k v =>
  simp only[S.lst] at hl
  split at hl
  ·rename_i o ho
   simp at hl;obtain⟨rfl,hl⟩:=hl;simp at hl;subst hl
   obtain⟨h1,h2⟩:=h.obval ho hx
   exact⟨_,_,h1,h2.1.1⟩
  ·simp at hl
 | _=>simp [S.lst] at hl
def z1al (E:Enc U) (St:Nat→Nat→Prop) (w:World) (τ:U.Ty) (xs:List (U.Den τ)) (p:Option Addr) (vs:List Value) : Prop :=
 vs.length=xs.length*U.sz τ∧(xs≠[]→∃ b o,p=some ⟨b,o,none⟩∧∀ (q:Nat) v,vs[q]? = some v→w.cell? ⟨b,o+q,none⟩=some v) ∧
 ∀ i (hi:i<xs.length) j d,(E.enc τ xs[i])[j]? = some d→∃ u,vs[i*U.sz τ+j]? = some u∧VRel E St w u d
theorem z1xf {St:Nat→Nat→Prop} {τ:U.Ty} {xs:List (U.Den τ)} {b o:Nat} {cv:Nat→Nat→Value} (hz:0<U.sz τ)
  (g1:∀ i j,i<xs.length→j<U.sz τ→w.cell? ⟨b,o+i*U.sz τ+j,none⟩=some (cv i j))
  (g2:∀ i (hi:i<xs.length) j d,(E.enc τ xs[i])[j]? = some d→VRel E St w (cv i j) d) : ∃ vs,z1al E St w τ xs (some ⟨b,o,none⟩) vs:=by
 refine⟨(List.range (xs.length*U.sz τ)).map (fun q=>cv (q / U.sz τ) (q % U.sz τ)),by simp,fun _=>⟨b,o,rfl,fun q v hq=>?_⟩,fun i hi j d hd=>?_⟩
 ·obtain⟨hlt,rfl⟩:=zck hq
  have h1:q / U.sz τ<xs.length:=(Nat.div_lt_iff_lt_mul hz).2 hlt
  have h2:=g1 (q / U.sz τ) (q % U.sz τ) h1 (Nat.mod_lt _ hz)
  have h3:q / U.sz τ*U.sz τ+q % U.sz τ=q:=by rw[Nat.mul_comm];exact Nat.div_add_mod q _
  rw[Nat.add_assoc,h3] at h2
  exact h2
 ·have hj:j<U.sz τ:=by
   rw[← E.len τ xs[i]]
   exact (List.getElem?_eq_some_iff.1 hd).1
  have hlt:i*U.sz τ+j<xs.length*U.sz τ:=by
   have : (i+1)*U.sz τ≤xs.length*U.sz τ:=Nat.mul_le_mul_right _ hi
   rw[Nat.add_mul] at this;omega
  refine⟨cv i j,?_,g2 i hi j d hd⟩
  rw[List.getElem?_map,List.getElem?_range hlt]
  simp only[Option.map_some]
  rw[show (i*U.sz τ+j) / U.sz τ=i from by rw[Nat.mul_comm,Nat.mul_add_div hz,Nat.div_eq_of_lt hj,Nat.add_zero],show (i*U.sz τ+j) % U.sz τ=j from by rw[Nat.mul_comm,Nat.mul_add_mod,Nat.mod_eq_of_lt hj]]
theorem z1tw {St:Nat→Nat→Prop} {τ:U.Ty} (p:Option Addr) : z1al E St w τ [] p []:=⟨by simp,by simp,fun i hi=>by simp at hi⟩
theorem Sim.row (h:Sim P E fr g s a w) {c:C U} {τ:U.Ty} {xs:List (U.Den τ)} {p:Option Addr} {n cap:Nat} (hz:0<U.sz τ) (hl:s.lst c=some ⟨τ,xs⟩) (hx:CRel P E g s.ob w (.slice p n cap) c) :
  n=xs.length∧n≤cap∧∃ vs,z1al E g.St w τ xs p vs:=by
 obtain⟨p',cap',e,hcap⟩:=h.len hl hx
 simp at e;obtain⟨rfl,rfl,rfl⟩:=e
 refine⟨rfl,hcap.1,?_⟩
 cases c with
 | sl τ' xs' f =>
  simp [S.lst] at hl;obtain⟨rfl,hl⟩:=hl;simp at hl;subst hl
  rcases hx.1.inv with ⟨rfl,_⟩ | ⟨b,o,cap',cv,hv,hcap',g1,g2⟩
  ·exact⟨[],z1tw p⟩
  ·simp at hv;obtain⟨rfl,_⟩:=hv
   exact z1xf hz (fun i j hi hj=>(g1 i j hi hj).2) g2
 | ob k v =>
  simp only[S.lst] at hl
  split at hl
  ·rename_i o ho
   simp at hl;obtain⟨rfl,hl⟩:=hl;simp at hl;subst hl
   obtain⟨h1,h2⟩:=h.obval ho hx
   simp at h1;obtain⟨rfl,h1⟩:=h1
   by_cases h0 : o.xs=[]
   ·rw[h0];exact⟨[],z1tw _⟩
   ·have hpos:0<(g.tk k).2:=by have:=List.length_pos_iff.2 h0;have:=h2.1.1;omega
    obtain⟨b,off,cv,e,hA⟩:=h2.2 hpos
    rw[e]
    exact z1xf hz (fun i j hi hj=>(hA.cell i j hi hj).1) hA.rel
  ·simp at hl
 | _=>simp [S.lst] at hl
theorem ObRel.data {k:Nat} {o:Ob U} (h:ObRel E g w k o) (hf:o.fr=none) : VRel E g.St w (.slice (g.tk k).1 o.xs.length (g.tk k).2) (.dat o.τ o.xs):=by
 by_cases h0 : o.xs.length=0
 ·have : o.xs=[]:=List.eq_nil_of_length_eq_zero h0
  rw[this];exact .nil _ _ _
 ·obtain⟨b,off,cv,e,hA⟩:=h.2 (by have:=h.1.1;omega)
  rw[e]
  refine .dat o.τ o.xs b off _ cv h.1.1 (fun i j hi hj=>?_) hA.rel
  obtain⟨c1,c2⟩:=hA.cell i j hi hj
  unfold Mode at c2
  rw[hf] at c2
  exact⟨c2,c1⟩
end Go.Proofs.YtjfpbchdcbhfgaaGreat.B
namespace Go.Proofs.YtjfpbchdcbhfgaaGreat.B
open Go Go.RowKit
variable {U:Uni}
def aggD : TypeDesc→Bool
 | .struct _=>true
 | .array _ _=>true
 | _=>false
def Shp (P:Program) (t:TypeId) (agg:Bool) (n:Nat) : Prop:=∃ d i,P.underlying t=some d∧aggD d=agg∧P.info? t=some i∧i.size=n
def TIOK (P:Program) (t:TypeId) (x:TI U) : Prop :=
 (∀ agg n,x.shape=some (agg,n)→Shp P t agg n) ∧
 match x with
 | .int k=>P.underlying t=some (.int k)
 | .bool=>P.underlying t=some .bool
 | .str=>P.underlying t=some .string
 | .sl e τ bytes=>P.underlying t=some (.slice e)∧(0<U.sz τ∧0<bytes)∧∃ i z,P.info? e=some i∧i.size=U.sz τ∧i.bytes=bytes∧i.zero=some z∧z.cells.size=U.sz τ
 | .st fs _=>∃ fl,P.underlying t=some (.struct fl)∧fl.size=fs.length∧∀ (f:Nat) d,fs[f]? = some d→∃ fd,fl[f]? = some fd∧fd.offset=d.1∧0<d.2.1∧Shp P fd.type d.2.2 d.2.1
 | .ar len esz eagg=>∃ e,P.underlying t=some (.array len e)∧Shp P e eagg esz
 | .one=>True
 | .fn=>∃ ps rs v,P.underlying t=some (.func ps rs v)
 | .oth=>True
def ZRel (v:Value) (c:C U) : Prop:=∀ (P:Program) (E:Enc U) (g:G) (ob:List (Option (Ob U))) (w:World),CRel P E g ob w v c
def EK.desc : EK→TypeDesc
 | .int k=>.int k
 | .str=>.string
 | .bool=>.bool
def EqFs (P:Program) : Nat→List Field→List EK→Prop
  | _,[],[]=>True
  | i, f :: fs, e :: es => (f.name ≠ "_" ∧ f.offset = i ∧ P.underlying f.type = some e.desc) ∧ EqFs P (i + 1) fs es
  | _,_,_=>False
def EqOK (P:Program) (t:TypeId) (es:List EK) : Prop :=
  P.eqGuardType P.depth t=false ∧
  ((∃ fl,P.underlying t=some (.struct fl)∧P.stoodInHeld t=false∧EqFs P 0 fl.toList es) ∨
   (∃ n e k,P.underlying t=some (.array n e)∧P.underlying e=some (EK.desc k)∧es=List.replicate n k∧P.cellsOf e=1∧∃ i,P.info? e=some i))
structure TabOK (P:Program) (M:Mc U) : Prop where
 eqs : ∀ t es,look t M.eqs=some es→EqOK P t es
 ti : ∀ t,TIOK P t (M.ti t)
 zero : ∀ t cs,M.zero t=some cs→∃ i z,P.info? t=some i∧i.zero=some z∧All2 ZRel z.cells.toList cs
def DCRel (P:Program) (E:Enc U) (St:Nat→Nat→Prop) (w:World) (v:Value) : DC U→Prop
 | .v x=>VRel E St w v x
 | .fn φ=>FunRel P E St w v φ
def DRel (P:Program) (E:Enc U) (St:Nat→Nat→Prop) (w:World) (v:Value) : D U→Prop
 | .d x=>D0Rel E St w v x
 | .fn φ=>FunRel P E St w v φ
 | .box cs=>∃ b,v=.pointer (some ⟨b,0,none⟩)∧∀ (i:Nat) c,cs[i]? = some c→St b i∧∃ u,w.cell? ⟨b,i,none⟩=some u∧DCRel P E St w u c
def Ret (P:Program) (E:Enc U) (St:Nat→Nat→Prop) (w w':World) (v:Value) (rs:List (A U)) (os:List (Ob U)) : Prop :=
 Ext w w'∧∃ g : G,(∀ k,¬ g.lb k)∧(∀ b o x,b<w.heap.size→g.ω b o=some x→x=.st∧St b o)∧(∀ b o x,g.ω b o=some x→b<w'.heap.size) ∧
  RetRel (ARel P E g (os.map some) w') v rs∧∀ k o,os[k]? = some o→ObRel E g w' k o∧o.ver=0
def Contract (P:Program) (E:Enc U) (f:FuncId) (args:List (D U)) (rs:List (A U)) (os:List (Ob U)) : Prop :=
 ∀ (w:World) (St:Nat→Nat→Prop) (vs:List Value),(∀ b o,St b o→b<w.heap.size)→All2 (DRel P E St w) vs args→Laid w →
  Calls P f vs.toArray w fun e w'=>∃ v,e=.returned v∧Ret P E St w w' v rs os
def zdu (P:Program) (E:Enc U) (f:FuncId) (args:List (D U)) (ob:List Prop) (rs:List (D0 U)) : Prop :=
 ∀ (w:World) (St:Nat→Nat→Prop) (vs:List Value),(∀ b o,St b o→b<w.heap.size)→All2 (DRel P E St w) vs args→Laid w →
  Calls P f vs.toArray w fun e w'=>∃ v,e=.returned v∧Ret0 E St w w' v rs∧z22o ob w w'
structure Part (P:Program) (E:Enc U) (g:G) (w:World) (bs:List (Bool×List (C U))) (os:List (Ob U)) : Prop where
 bxs : ∀ k fz cells,bs[k]? = some (fz,cells)→g.lb k∧BoxRel P E g (os.map some) w k fz cells
 lbs : ∀ k,g.lb k→k<bs.length
 obs : ∀ k o,os[k]? = some o→ObRel E g w k o∧o.ver=0
 own : ∀ b o x,g.ω b o=some x→b<w.heap.size
 laid : Laid w
 nlb : ∀ b o x,LB b=true→g.ω b o=some x→x=.st
def G.mine (g:G) (b o:Nat) : Prop:=∃ y,y≠Own.st∧g.ω b o=some y
def RetG (P:Program) (E:Enc U) (g:G) (w w':World) (v:Value) (rs:List (A U)) (bxs':List (Bool×List (C U))) (obs':List (Ob U)) : Prop :=
 ∃ g' : G,FExt ⟨w,g.mine,g.St,bxs'.length,g.β⟩ w'∧Part P E g' w' bxs' obs'∧(∀ k,g.lb k→g'.β k=g.β k)∧(∀ b o x,b<w.heap.size→g'.ω b o=some x→g.mine b o∨(x=.st∧g.St b o))∧RetRel (ARel P E g' (obs'.map some) w') v rs
def GContract (P:Program) (E:Enc U) (f:FuncId) (args:List (A U)) (bxs:List (Bool×List (C U))) (obs:List (Ob U)) (rs:List (A U)) (bxs':List (Bool×List (C U))) (obs':List (Ob U)) : Prop :=
 ∀ (w:World) (g:G) (vs:List Value),Part P E g w bxs obs→All2 (ARel P E g (obs.map some) w) vs args →
  Calls P f vs.toArray w fun e w'=>∃ v,e=.returned v∧RetG P E g w w' v rs bxs' obs'
def z1ih (P:Program) (E:Enc U) (f:FuncId) (τ:U.Ty) (xs:List (U.Den τ)) (ds:List (D U)) (ys:List (U.Den τ)) : Prop :=
 ∀ (w:World) (g:G) (k ver:Nat) (live:Bool) (vs:List Value),ObRel E g w k ⟨ver,τ,xs,some 0,live⟩→(∀ b o x,g.ω b o=some x→b<w.heap.size)→All2 (DRel P E g.St w) vs ds→Laid w→(∀ b o,LB b=true→¬ g.ω b o=some (.obj k)) →
  Calls P f (.slice (g.tk k).1 xs.length (g.tk k).2::vs).toArray w fun e w'=>e=.returned (.tuple #[])∧ys.length=xs.length∧FExt ⟨w,fun b i=>g.ω b i=some (.obj k),g.St,0,g.β⟩ w'∧ObRel E g w' k ⟨ver,τ,ys,some 0,live⟩
structure FnsOK (P:Program) (M:Mc U) : Prop where
 ups : ∀ f F τ xs ds ob ys,M.ups f=some F→F τ xs ds=some (ob,ys)→(∀ p∈ob,p)→z1ih P M.E f τ xs ds ys∧z3q P f
 gns : ∀ f ms F args bxs obs ob rs bxs' obs',M.gns f=some (ms,F)→F args bxs obs=some (ob,rs,bxs',obs')→(∀ p∈ob,p)→GContract P M.E f args bxs obs rs bxs' obs'∧z3q P f
 fns : ∀ f F args ob rs os,M.fns f=some F→F args=some (ob,rs,os)→(∀ p∈ob,p)→Contract P M.E f args rs os∧z3q P f
 fvb : ∀ f φ,M.fvs f=some φ→z3q P f
 fvs : ∀ f φ args ob rs,M.fvs f=some φ→φ args=some (ob,rs)→(∀ p∈ob,p)→zdu P M.E f (args.map .d) ob rs
 clb : ∀ f F,M.clo f=some F→z3q P f
 clo : ∀ f F dl φ args ob rs,M.clo f=some F→F dl=some φ→φ args=some (ob,rs)→(∀ p∈ob,p)→zdu P M.E f (args.map .d++dl.map .box) ob rs
def shpB (P:Program) (t:TypeId) (agg:Bool) (n:Nat) : Bool :=
 match P.underlying t,P.info? t with
 | some d,some i=>aggD d == agg && i.size == n
 | _,_=>false
theorem z1no {P:Program} {t:TypeId} {agg:Bool} {n:Nat} (h:shpB P t agg n=true) : Shp P t agg n:=by
 unfold shpB at h
 split at h
 ·rename_i d i h1 h2
  simp at h
  exact⟨d,i,h1,h.1,h2,h.2⟩
 ·simp at h
def zeh (P:Program) : List Field→List (Nat×Nat×Bool)→Bool
 | [],[]=>true
 | [],_::_=>false
 | _::_,[]=>false
 | fd::fl,d::ds=>fd.offset == d.1 && decide (0<d.2.1) && shpB P fd.type d.2.2 d.2.1 && zeh P fl ds
theorem z1ii {P:Program} : ∀ {fl:List Field} {ds:List (Nat×Nat×Bool)},zeh P fl ds=true→∀ (f:Nat) d,ds[f]? = some d→∃ fd,fl[f]? = some fd∧fd.offset=d.1∧0<d.2.1∧Shp P fd.type d.2.2 d.2.1
 | _,[],_,f,d,h=>by simp at h
 | [],_::_,hb,_,_,_=>by simp [zeh] at hb
 | fd::fl,d0::ds,hb,f,d,h=>by
  simp only[zeh,Bool.and_eq_true,beq_iff_eq,decide_eq_true_eq] at hb
  obtain⟨⟨⟨h1,h2⟩,h3⟩,h4⟩:=hb
  cases f with
  | zero=>simp at h;subst h;exact⟨fd,rfl,h1,h2,z1no h3⟩
  | succ f=>simp only[List.getElem?_cons_succ] at h ⊢;exact z1ii h4 f d h
theorem z1am {P:Program} : ∀ {fl:List Field} {ds:List (Nat×Nat×Bool)},zeh P fl ds=true→fl.length=ds.length
 | [],[],_=>rfl
 | [],_::_,h=>by simp [zeh] at h
 | _::_,[],h=>by simp [zeh] at h
 | _::_,_::_,h=>by
  simp only[zeh,Bool.and_eq_true] at h
  simp [z1am h.2]
def tiB (P:Program) (t:TypeId) (x:TI U) : Bool :=
 (match x.shape with | some (agg,n)=>shpB P t agg n | none=>true) &&
 match x with
 | .int k=>(match P.underlying t with | some (.int k')=>decide (k'=k) | _=>false)
 | .bool=>(match P.underlying t with | some .bool=>true | _=>false)
 | .str=>(match P.underlying t with | some .string=>true | _=>false)
 | .sl e τ bytes=>(match P.underlying t,P.info? e with
  | some (.slice e'),some i=>e' == e && decide (0<U.sz τ∧0<bytes) && i.size == U.sz τ && i.bytes == bytes && (match i.zero with | some z=>z.cells.size == U.sz τ | none=>false)
  | _,_=>false)
 | .st fs _=>(match P.underlying t with | some (.struct fl)=>zeh P fl.toList fs | _=>false)
 | .ar len esz eagg=>(match P.underlying t with | some (.array len' e)=>len' == len && shpB P e eagg esz | _=>false)
 | .one=>true
 | .fn=>(match P.underlying t with | some (.func _ _ _)=>true | _=>false)
 | .oth=>true
theorem z251 {P:Program} {t:TypeId} {x:TI U} (h:tiB P t x=true) : TIOK P t x:=by
 simp only[tiB,Bool.and_eq_true] at h
 obtain⟨h0,h1⟩:=h
 refine⟨fun agg n hs=>?_,?_⟩
 ·rw[hs] at h0;exact z1no h0
 ·cases x with
  | int k=>dsimp only at h1 ⊢;split at h1<;>simp_all
  | bool=>dsimp only at h1 ⊢;split at h1<;>simp_all
  | str=>dsimp only at h1 ⊢;split at h1<;>simp_all
  | sl e τ bytes =>
   dsimp only at h1 ⊢
   split at h1
   ·rename_i e' i h2 h3
    simp only[Bool.and_eq_true,beq_iff_eq,decide_eq_true_eq] at h1
    obtain⟨⟨⟨⟨rfl,h5⟩,h6⟩,h7⟩,h8⟩:=h1
    split at h8
    ·rename_i z hz
     exact⟨h2,h5,i,z,h3,h6,h7,hz,by simpa using h8⟩
    ·simp at h8
   ·simp at h1
  | st fs n =>
   dsimp only at h1 ⊢
   split at h1
   ·rename_i fl h2
    refine⟨fl,h2,by rw[← z1am h1];simp,fun f d hd=>?_⟩
    obtain⟨fd,i1,i2⟩:=z1ii h1 f d hd
    exact⟨fd,by rw[Array.getElem?_toList] at i1;exact i1,i2⟩
   ·simp at h1
  | ar len esz eagg =>
   dsimp only at h1 ⊢
   split at h1
   ·rename_i len' e h2
    simp only[Bool.and_eq_true,beq_iff_eq] at h1
    obtain⟨rfl,h3⟩:=h1
    exact⟨e,h2,z1no h3⟩
   ·simp at h1
  | one=>trivial
  | fn =>
   dsimp only at h1 ⊢
   split at h1
   ·rename_i ps rs v h2;exact⟨ps,rs,v,h2⟩
   ·simp at h1
  | oth=>trivial
theorem z_of {v:Value} {c:C U} (h:zB v c=true) : ZRel v c:=by
 intro P E g ob w
 unfold zB at h
 split at h
 ·simp at h;obtain⟨⟨rfl,rfl⟩,h2⟩:=h;exact⟨rfl,h2⟩
 ·simp at h;subst h;exact⟨rfl,rfl⟩
 ·rename_i b b'
  cases b;cases b';simp at h;obtain⟨h1,h2⟩:=h;subst h1;exact⟨rfl,h2⟩
 ·exact⟨rfl,rfl⟩
 ·exact⟨rfl,rfl⟩
 ·exact⟨.nil _ _ _,fun _=>⟨_,_,rfl⟩⟩
 ·simp at h
theorem z1uv : ∀ {vs:List Value} {cs:List (C U)},zsB vs cs=true→All2 ZRel vs cs
 | [],[],_=>trivial
 | v::vs,c::cs,h=>by
  simp only[zsB,Bool.and_eq_true] at h
  exact⟨z_of h.1,z1uv h.2⟩
 | [],_::_,h=>by simp [zsB] at h
 | _::_,[],h=>by simp [zsB] at h
def z1nb : Option TypeDesc→EK→Bool
 | some (.int k),.int k'=>decide (k=k')
 | some .string,.str=>true
 | some .bool,.bool=>true
 | _,_=>false
theorem z1tx {d:Option TypeDesc} {e:EK} (h:z1nb d e=true) : d=some e.desc:=by
 unfold z1nb at h
 split at h
 ·have:=of_decide_eq_true h;subst this;rfl
 ·rfl
 ·rfl
 ·simp at h
def z141 (P:Program) : Nat→List Field→List EK→Bool
  | _,[],[]=>true
  | i, f :: fs, e :: es => (f.name != "_" && f.offset == i && z1nb (P.underlying f.type) e) && z141 P (i + 1) fs es
  | _,_,_=>false
theorem z1ty {P:Program} : ∀ {i:Nat} {fs:List Field} {es:List EK},z141 P i fs es=true→EqFs P i fs es
 | _,[],[],_=>trivial
 | i,f::fs,e::es,h=>by
  simp only[z141,Bool.and_eq_true,bne_iff_ne,beq_iff_eq] at h
  exact⟨⟨h.1.1.1,h.1.1.2,z1tx h.1.2⟩,z1ty h.2⟩
 | _,[],_::_,h=>by simp [z141] at h
 | _,_::_,[],h=>by simp [z141] at h
def eqB (P:Program) (t:TypeId) (es:List EK) : Bool :=
 !(P.eqGuardType P.depth t) && match P.underlying t with
 | some (.struct fl)=>!(P.stoodInHeld t) && z141 P 0 fl.toList es
 | some (.array n e)=>es.length == n && (match es with | k::_=>es.all (fun x=>z1nb (P.underlying e) x && match x,k with | .int a,.int b=>decide (a=b) | .str,.str=>true | .bool,.bool=>true | _,_=>false) | []=>false) && P.cellsOf e == 1 && (P.info? e).isSome
 | _=>false
theorem z252 {P:Program} {t:TypeId} {es:List EK} (h:eqB P t es=true) : EqOK P t es:=by
 unfold eqB at h
 rw[Bool.and_eq_true] at h
 refine⟨by simpa using h.1,?_⟩
 have h2:=h.2
 split at h2
 ·rename_i fl hu
  rw[Bool.and_eq_true] at h2
  exact .inl ⟨fl,hu,by simpa using h2.1,z1ty h2.2⟩
 ·rename_i n e hu
  simp only[Bool.and_eq_true,beq_iff_eq] at h2
  obtain⟨⟨⟨h3,h4⟩,h5⟩,h6⟩:=h2
  cases es with
  | nil=>simp at h4
  | cons k r =>
   dsimp only at h4
   rw[List.all_eq_true] at h4
   have h7:=h4 k (by simp)
   rw[Bool.and_eq_true] at h7
   refine .inr ⟨n,e,k,hu,z1tx h7.1,?_,h5,Option.isSome_iff_exists.1 h6⟩
   rw[List.eq_replicate_iff]
   refine⟨h3,fun x hx=>?_⟩
   have:=h4 x hx
   rw[Bool.and_eq_true] at this
   cases x<;>cases k<;>simp_all
 ·simp at h2
def tabB (P:Program) (M:Mc U) : Bool :=
 M.eqs.all (fun x=>eqB P x.1 x.2) && M.tab.all (fun x=>tiB P x.1 x.2) && M.zeros.all (fun x=>match P.info? x.1 with
  | some i=>(match i.zero with | some z=>zsB z.cells.toList x.2 | none=>false)
  | none=>false)
theorem zh1 {α:Type} {t:Nat} {x:α} : ∀ {l:List (Nat×α)},look t l=some x→(t,x)∈l
 | [],h=>by simp [look] at h
 | (k,y)::r,h=>by
  simp only[look] at h
  split at h
  ·rename_i hb
   have:=Nat.eq_of_beq_eq_true hb
   simp at h;subst this;subst h;simp
  ·exact List.mem_cons_of_mem _ (zh1 h)
theorem z247 {P:Program} {M:Mc U} (h:tabB P M=true) : TabOK P M:=by
 simp only[tabB,Bool.and_eq_true,List.all_eq_true] at h
 obtain⟨⟨h0,h1⟩,h2⟩:=h
 have h:(∀ x∈M.tab,tiB P x.1 x.2=true)∧_:=⟨h1,h2⟩
 refine⟨fun t es he=>z252 (h0 (t,es) (zh1 he)),fun t=>?_,fun t cs hz=>?_⟩
 ·unfold Mc.ti
  cases hl : look t M.tab with
  | none=>exact⟨fun _ _ hs=>by simp [TI.shape] at hs,trivial⟩
  | some x=>exact z251 (h.1 (t,x) (zh1 hl))
 ·have:=h.2 (t,cs) (zh1 hz)
  dsimp only at this
  cases hi : P.info? t with
  | none=>simp [hi] at this
  | some i =>
   cases hz' : i.zero with
   | none=>simp [hi,hz'] at this
   | some z=>simp [hi,hz'] at this;exact⟨i,z,rfl,hz',z1uv this⟩
end Go.Proofs.YtjfpbchdcbhfgaaGreat.B
