/- Part 1 of the proof: BLaid Base. -/
import Derived.WalkKit
import Derived.Lib.LaidTab
import Derived.ProofKit
import Derived.OpenShut
import Derived.Lib.Hide
import Derived.WalkLawsBesides
import Derived.BigQuiet
import Derived.Deep.QuietTactic
namespace Go.Proofs.YtjfpbchdcbhfgaaGreat
open Go Go.RowKit
def LB (_:Nat) : Bool:=false
def Laid (_:World) : Prop:=True
theorem Laid.lt {w:World} (_h:Laid w) (b:Nat) (hl:LB b=true) : b<w.heap.size:=by simp [LB] at hl
theorem Laid.on {w w':World} (_h:Laid w) (_hs:w.heap.size≤w'.heap.size) (_hb:∀ b,LB b=true→w'.heap[b]? = w.heap[b]?) : Laid w':=trivial
theorem Laid.none (w:World) : Laid w:=trivial
end Go.Proofs.YtjfpbchdcbhfgaaGreat
namespace Go.Proofs.YtjfpbchdcbhfgaaGreat
open Go.RowKit
def Ext (w w':World) : Prop:=Below w.heap.size w w'
theorem Laid.ext {w w':World} (h:Laid w) (hb:Ext w w') : Laid w':=h.on hb.size fun b hl=>Below.block hb b (h.lt b hl)
theorem Ext.refl (w:World) : Ext w w:=Below.refl _ _
theorem Ext.trans {a b c:World} (h:Ext a b) (k:Ext b c) : Ext a c:=Below.trans h (Below.mono k h.size)
theorem Ext.alloc {a b:World} (h:Ext a b) (o:Obj) : Ext a (b.alloc o):=Below.alloc h h.size o
theorem Ext.drew {a b:World} (h:Ext a b) : Ext a b.drew:=Below.drew h
theorem Ext.setCell {a b:World} (h:Ext a b) {p:Addr} (hp:a.heap.size≤p.block) (u:Value) : Ext a (b.setCell p u):=Below.setCell h hp u
theorem Ext.cell {a b:World} (h:Ext a b) {p:Addr} (hp:p.block<a.heap.size) : b.cell? p=a.cell? p:=Below.cell h hp
theorem Ext.frozen {a b:World} (h:Ext a b) {p:Addr} (hp:p.block<a.heap.size) : b.frozen? p=a.frozen? p:=Below.frozen h hp
def stuck (w:World) (p:Addr) : Bool:=w.frozen? p || (match w.shape? p.block with | some (_,n)=>w.frozen? ⟨p.block,n,none⟩ | none=>false)
theorem zjn {w:World} {p:Addr} (h:stuck w p=false) : w.frozen? p=false:=(Bool.or_eq_false_iff.1 h).1
theorem z1ur {w:World} {p:Addr} (h:stuck w p=false) {t:TypeId} {n:Nat} (hs:w.shape? p.block=some (t,n)) : w.frozen? ⟨p.block,n,none⟩=false:=by
 have:=(Bool.or_eq_false_iff.1 h).2
 rw[hs] at this;exact this
theorem zw7 {w w':World} {p:Addr} (h:w'.heap[p.block]? = w.heap[p.block]?) : stuck w' p=stuck w p:=by
 unfold stuck World.frozen? World.shape?
 simp only[h]
theorem zme (w:World) (a:Addr) (v:Value) (p:Addr) : stuck (w.setCell a v) p=stuck w p:=by
 have hs:(w.setCell a v).shape? p.block=w.shape? p.block:=by
  unfold World.shape? World.setCell
  simp only[Array.getElem?_modify]
  by_cases h : a.block=p.block
  ·rw[if_pos h]
   cases w.heap[p.block]? with
   | none=>rfl
   | some o=>cases o<;>(try rfl);simp only[Option.map_some];split<;>simp_all
  ·rw[if_neg h]
 unfold stuck
 simp only[World.frozen?_setCell,hs]
@[simp] theorem z25n (w:World) (arr:Array Value) (t:TypeId) (o:Nat) : stuck (w.alloc (.cells arr t)) ⟨w.heap.size,o,none⟩=false:=by
 unfold stuck World.shape? World.frozen? World.alloc
 simp
theorem Ext.stuck {a b:World} (h:Ext a b) {p:Addr} (hp:p.block<a.heap.size) : stuck b p=stuck a p:=zw7 (Below.block h _ hp)
theorem Ext.le {a b:World} (h:Ext a b) : a.heap.size≤b.heap.size:=h.size
theorem Ext.block {a b:World} (h:Ext a b) {k:Nat} (hk:k<a.heap.size) : b.heap[k]? = a.heap[k]?:=Below.block h k hk
theorem z6l {w:World} {p:Addr} {v:Value} (h:w.cell? p=some v) : p.block<w.heap.size:=by
 unfold World.cell? at h
 rcases Nat.lt_or_ge p.block w.heap.size with hl | hl
 ·exact hl
 ·rw[Array.getElem?_eq_none hl] at h;simp at h
theorem Ext.keeps {a b:World} (h:Ext a b) {p:Addr} {v:Value} (hc:a.cell? p=some v) : b.cell? p=some v:=by
 rw[h.cell (z6l hc)];exact hc
end Go.Proofs.YtjfpbchdcbhfgaaGreat
