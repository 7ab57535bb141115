/- How the abstract machine's state stands for the model's: cells, values, boxes, objects. -/
import Derived.Test.YtaepcbdcjbfgjaaBDef
namespace Go.Proofs.Ytaepcbdcjbfgjaa.B
open Go Go.RowKit
variable {U : Uni} {P : Program}

/-- A value that is data: a scalar, or a slice whose elements lie in cells that nobody writes ('St'). -/
inductive VRel (E : Enc U) (St : Nat → Nat → Prop) (w : World) : Value → V U → Prop
  | s (x : Value) (h : oneC x = true) : VRel E St w x (.s x)
  | nil (τ : U.Ty) (a : Option Addr) (cap : Nat) : VRel E St w (.slice a 0 cap) (.dat τ [])
  | dat (τ : U.Ty) (xs : List (U.Den τ)) (b o cap : Nat) (cv : Nat → Nat → Value) (hcap : xs.length ≤ cap ∧ xs.length ≤ 9223372036854775807)
      (h1 : ∀ i j, i < xs.length → j < U.sz τ → St b (o + i * U.sz τ + j) ∧ w.cell? ⟨b, o + i * U.sz τ + j, none⟩ = some (cv i j))
      (h2 : ∀ i (hi : i < xs.length) j d, (E.enc τ xs[i])[j]? = some d → VRel E St w (cv i j) d) :
      VRel E St w (.slice (some ⟨b, o, none⟩) xs.length cap) (.dat τ xs)

/-- What stands still goes on standing still. -/
def Keeps (St : Nat → Nat → Prop) (w : World) (St' : Nat → Nat → Prop) (w' : World) : Prop :=
  ∀ b o, St b o → St' b o ∧ w'.cell? ⟨b, o, none⟩ = w.cell? ⟨b, o, none⟩
theorem Keeps.refl (St : Nat → Nat → Prop) (w : World) : Keeps St w St w := fun _ _ h => ⟨h, rfl⟩
theorem Keeps.trans {St St' St'' : Nat → Nat → Prop} {w w' w'' : World} (h : Keeps St w St' w') (k : Keeps St' w' St'' w'') : Keeps St w St'' w'' :=
  fun b o hs => ⟨(k b o (h b o hs).1).1, (k b o (h b o hs).1).2.trans (h b o hs).2⟩

theorem VRel.mono {E : Enc U} {St St' : Nat → Nat → Prop} {w w' : World} {v : Value} {d : V U} (h : VRel E St w v d)
    (hs : Keeps St w St' w') : VRel E St' w' v d := by
  induction h with
  | s x h => exact .s x h
  | nil τ a cap => exact .nil τ a cap
  | dat τ xs b o cap cv hcap h1 h2 ih =>
    refine .dat τ xs b o cap cv hcap (fun i j hi hj => ?_) ih
    obtain ⟨g1, g2⟩ := h1 i j hi hj
    obtain ⟨g3, g4⟩ := hs _ _ g1
    exact ⟨g3, by rw [g4]; exact g2⟩

theorem VRel.inv {E : Enc U} {St : Nat → Nat → Prop} {w : World} {v : Value} {τ : U.Ty} {xs : List (U.Den τ)} (h : VRel E St w v (.dat τ xs)) :
    (xs = [] ∧ ∃ a cap, v = .slice a 0 cap) ∨ ∃ (b o cap : Nat) (cv : Nat → Nat → Value), v = .slice (some ⟨b, o, none⟩) xs.length cap ∧ (xs.length ≤ cap ∧ xs.length ≤ 9223372036854775807) ∧
      (∀ i j, i < xs.length → j < U.sz τ → St b (o + i * U.sz τ + j) ∧ w.cell? ⟨b, o + i * U.sz τ + j, none⟩ = some (cv i j)) ∧
      (∀ i (hi : i < xs.length) j d, (E.enc τ xs[i])[j]? = some d → VRel E St w (cv i j) d) := by
  cases h with
  | nil _ a cap => exact .inl ⟨rfl, a, cap, rfl⟩
  | dat _ _ b o cap cv hcap h1 h2 => exact .inr ⟨b, o, cap, cv, rfl, hcap, h1, h2⟩

theorem VRel.one {E : Enc U} {St : Nat → Nat → Prop} {w : World} {v : Value} {d : V U} (h : VRel E St w v d) : oneC v = true := by
  cases h <;> first | rfl | assumption

/-- Two lists, one by one. -/
def All2 {α β : Type} (R : α → β → Prop) : List α → List β → Prop
  | [], [] => True
  | a :: l, b :: r => R a b ∧ All2 R l r
  | _, _ => False

section
variable {α β : Type} {R R' : α → β → Prop}
theorem All2.length : ∀ {l : List α} {r : List β}, All2 R l r → l.length = r.length
  | [], [], _ => rfl
  | _ :: _, _ :: _, h => by simp [All2.length h.2]
theorem All2.imp (h : ∀ a b, R a b → R' a b) : ∀ {l : List α} {r : List β}, All2 R l r → All2 R' l r
  | [], [], _ => trivial
  | _ :: _, _ :: _, hh => ⟨h _ _ hh.1, All2.imp h hh.2⟩
theorem All2.append : ∀ {l l' : List α} {r r' : List β}, All2 R l r → All2 R l' r' → All2 R (l ++ l') (r ++ r')
  | [], _, [], _, _, h => h
  | _ :: _, _, _ :: _, _, h, h' => ⟨h.1, All2.append h.2 h'⟩
theorem All2.drop : ∀ (n : Nat) {l : List α} {r : List β}, All2 R l r → All2 R (l.drop n) (r.drop n)
  | 0, _, _, h => h
  | _ + 1, [], [], _ => trivial
  | n + 1, _ :: _, _ :: _, h => All2.drop n h.2
theorem All2.take : ∀ (n : Nat) {l : List α} {r : List β}, All2 R l r → All2 R (l.take n) (r.take n)
  | 0, l, r, _ => by simp [All2]
  | _ + 1, [], [], _ => trivial
  | n + 1, _ :: _, _ :: _, h => ⟨h.1, All2.take n h.2⟩
theorem All2.get : ∀ {l : List α} {r : List β} (i : Nat) {b : β}, All2 R l r → r[i]? = some b → ∃ a, l[i]? = some a ∧ R a b
  | a :: _, b :: _, 0, _, h, e => by simp at e; subst e; exact ⟨a, rfl, h.1⟩
  | _ :: _, _ :: _, i + 1, _, h, e => All2.get (l := _) i h.2 (by simpa using e)
  | [], [], _, _, _, e => by simp at e
theorem All2.get' : ∀ {l : List α} {r : List β} (i : Nat) {a : α}, All2 R l r → l[i]? = some a → ∃ b, r[i]? = some b ∧ R a b
  | _ :: _, b :: _, 0, _, h, e => by simp at e; subst e; exact ⟨b, rfl, h.1⟩
  | _ :: _, _ :: _, i + 1, _, h, e => All2.get' (r := _) i h.2 (by simpa using e)
  | [], [], _, _, _, e => by simp at e
theorem All2.set : ∀ {l : List α} {r : List β} (i : Nat) {a : α} {b : β}, All2 R l r → R a b → All2 R (l.set i a) (r.set i b)
  | [], [], _, _, _, _, _ => trivial
  | _ :: _, _ :: _, 0, _, _, h, hab => ⟨hab, h.2⟩
  | _ :: _, _ :: _, i + 1, _, _, h, hab => ⟨h.1, All2.set i h.2 hab⟩
theorem All2.map_right {γ : Type} {R' : α → γ → Prop} (f : β → γ) (h : ∀ a b, R a b → R' a (f b)) : ∀ {l : List α} {r : List β}, All2 R l r → All2 R' l (r.map f)
  | [], [], _ => trivial
  | _ :: _, _ :: _, hh => ⟨h _ _ hh.1, All2.map_right f h hh.2⟩
theorem All2.of_get : ∀ {l : List α} {r : List β}, l.length = r.length → (∀ (i : Nat) a b, l[i]? = some a → r[i]? = some b → R a b) → All2 R l r
  | [], [], _, _ => trivial
  | a :: l, b :: r, hl, h => ⟨h 0 a b rfl rfl, All2.of_get (by simpa using hl) (fun i x y hx hy => h (i + 1) x y (by simpa using hx) (by simpa using hy))⟩
end

def D0Rel (E : Enc U) (St : Nat → Nat → Prop) (w : World) (v : Value) : D0 U → Prop
  | .v x => VRel E St w v x
  | .agg xs => ∃ arr : Array Value, v = .agg arr ∧ All2 (VRel E St w) arr.toList xs
/-- One result, or some. -/
def RetRel {α : Type} (R : Value → α → Prop) (v : Value) : List α → Prop
  | [d] => R v d
  | ds => ∃ arr : Array Value, v = .tuple arr ∧ All2 R arr.toList ds
theorem RetRel.imp {α : Type} {R R' : Value → α → Prop} (hi : ∀ a b, R a b → R' a b) {v : Value} {ds : List α} (h : RetRel R v ds) : RetRel R' v ds := by
  match ds, h with
  | [], h => obtain ⟨arr, h1, h2⟩ := h; exact ⟨arr, h1, h2.imp hi⟩
  | [d], h => exact hi _ _ h
  | _ :: _ :: _, h => obtain ⟨arr, h1, h2⟩ := h; exact ⟨arr, h1, h2.imp hi⟩

theorem D0Rel.mono {E : Enc U} {St St' : Nat → Nat → Prop} {w w' : World} (hs : Keeps St w St' w') {v : Value} {d : D0 U} (h : D0Rel E St w v d) : D0Rel E St' w' v d := by
  cases d with
  | v x => exact VRel.mono h hs
  | agg xs => obtain ⟨arr, h1, h2⟩ := h; exact ⟨arr, h1, h2.imp fun _ _ h => h.mono hs⟩

/-- What a call leaves whose results are data. -/
def Ret0 (E : Enc U) (St : Nat → Nat → Prop) (w w' : World) (v : Value) (rs : List (D0 U)) : Prop :=
  Ext w w' ∧ ∃ St' : Nat → Nat → Prop, (∀ b o, b < w.heap.size → St' b o → St b o) ∧ (∀ b o, St' b o → b < w'.heap.size) ∧ RetRel (D0Rel E St' w') v rs

/-- A function, with what it has captured, gives what φ says, now and whenever what stands still stands still. -/
def Gives (P : Program) (E : Enc U) (f : FuncId) (caps : Array Value) (St : Nat → Nat → Prop) (w : World) (φ : FV U) : Prop :=
  ∀ (St' : Nat → Nat → Prop) (w' : World), Keeps St w St' w' → (∀ b o, St' b o → b < w'.heap.size) → ∀ (args : List (D0 U)) (ob : List Prop) (rs : List (D0 U)), φ args = some (ob, rs) → (∀ p ∈ ob, p) →
    ∀ vs : List Value, All2 (D0Rel E St' w') vs args → Calls P f (vs.toArray ++ caps) w' fun e w'' => ∃ v, e = .returned v ∧ Ret0 E St' w' w'' v rs

def HasBody (P : Program) (f : FuncId) : Prop := ∃ fn c, P.funcs[f]? = some fn ∧ fn.body = some c ∧ (fn.name == "runtime.NumGoroutine") = false

def FunRel (P : Program) (E : Enc U) (St : Nat → Nat → Prop) (w : World) (v : Value) (φ : FV U) : Prop :=
  ∃ (f : FuncId) (caps : Array Value), v = .func (.func f) #[] caps ∧ HasBody P f ∧ Gives P E f caps St w φ

theorem FunRel.mono {E : Enc U} {St St' : Nat → Nat → Prop} {w w' : World} (hs : Keeps St w St' w') {v : Value} {φ : FV U} (h : FunRel P E St w v φ) : FunRel P E St' w' v φ := by
  obtain ⟨f, caps, h1, h2, h3⟩ := h
  exact ⟨f, caps, h1, h2, fun St'' w'' hk => h3 St'' w'' (hs.trans hk)⟩
theorem FunRel.one {E : Enc U} {St : Nat → Nat → Prop} {w : World} {v : Value} {φ : FV U} (h : FunRel P E St w v φ) : oneC v = true := by
  obtain ⟨f, caps, rfl, _⟩ := h; rfl

/-- Whose a cell is: nobody's who writes, a box's, an object's. -/
inductive Own
  | st
  | box (k : Nat)
  | obj (k : Nat)

/-- What the proof knows beside the state: where boxes lie, whose each cell is, where objects lie and how much room they have. -/
structure G where
  β : Nat → Nat
  lb : Nat → Prop
  ω : Nat → Nat → Option Own
  tk : Nat → Option Addr × Nat
def G.St (g : G) (b o : Nat) : Prop := g.ω b o = some .st

def capPtrs (g : G) (ks : List Nat) : Array Value := (ks.map fun k => Value.pointer (some ⟨g.β k, 0, none⟩)).toArray

def CRel (P : Program) (E : Enc U) (g : G) (ob : List (Option (Ob U))) (w : World) (v : Value) : C U → Prop
  | .s x => v = x ∧ oneC x = true
  | .sl τ xs f => VRel E g.St w v (.dat τ xs) ∧ (f = true → ∃ a n, v = .slice a n n)
  | .ob k ver => oneC v = true ∧ ∃ o, ob[k]? = some (some o) ∧ ver ≤ o.ver ∧ (ver = o.ver → v = .slice (g.tk k).1 o.xs.length (g.tk k).2)
  | .bx k off => g.lb k ∧ v = .pointer (some ⟨g.β k, off, none⟩)
  | .el τ xs i off => i < xs.length ∧ ∃ b o cap, v = .pointer (some ⟨b, o + i * U.sz τ + off, none⟩) ∧ VRel E g.St w (.slice (some ⟨b, o, none⟩) xs.length cap) (.dat τ xs)
  | .em k ver i off => oneC v = true ∧ ∃ o, ob[k]? = some (some o) ∧ ver ≤ o.ver ∧ (ver = o.ver → i < o.xs.length ∧ ∃ b o', (g.tk k).1 = some ⟨b, o', none⟩ ∧ v = .pointer (some ⟨b, o' + i * U.sz o.τ + off, none⟩))
  | .fv φ => FunRel P E g.St w v φ
  | .fc f caps => v = .func (.func f) #[] (capPtrs g caps) ∧ ∀ k ∈ caps, g.lb k
  | .top => oneC v = true

/-- From one state of knowledge to a later one. -/
structure GLe (g : G) (ob : List (Option (Ob U))) (w : World) (g' : G) (ob' : List (Option (Ob U))) (w' : World) : Prop where
  st : Keeps g.St w g'.St w'
  lb : ∀ k, g.lb k → g'.lb k ∧ g'.β k = g.β k
  ob : ∀ k o, ob[k]? = some (some o) → ∃ o', ob'[k]? = some (some o') ∧ o.ver ≤ o'.ver ∧ (o.ver = o'.ver → o'.xs.length = o.xs.length ∧ U.sz o'.τ = U.sz o.τ ∧ g'.tk k = g.tk k)

theorem GLe.refl (g : G) (ob : List (Option (Ob U))) (w : World) : GLe g ob w g ob w :=
  ⟨Keeps.refl _ _, fun _ h => ⟨h, rfl⟩, fun _ o h => ⟨o, h, Nat.le_refl _, fun _ => ⟨rfl, rfl, rfl⟩⟩⟩
theorem GLe.trans {g g' g'' : G} {ob ob' ob'' : List (Option (Ob U))} {w w' w'' : World} (h : GLe g ob w g' ob' w') (k : GLe g' ob' w' g'' ob'' w'') : GLe g ob w g'' ob'' w'' := by
  refine ⟨h.st.trans k.st, fun b hs => ⟨(k.lb b (h.lb b hs).1).1, (k.lb b (h.lb b hs).1).2.trans (h.lb b hs).2⟩, fun q o hq => ?_⟩
  obtain ⟨o', h1, h2, h3⟩ := h.ob q o hq
  obtain ⟨o'', k1, k2, k3⟩ := k.ob q o' h1
  refine ⟨o'', k1, Nat.le_trans h2 k2, fun e => ?_⟩
  have e1 : o.ver = o'.ver := by omega
  have e2 : o'.ver = o''.ver := by omega
  obtain ⟨a1, a2, a3⟩ := h3 e1
  obtain ⟨b1, b2, b3⟩ := k3 e2
  exact ⟨b1.trans a1, b2.trans a2, b3.trans a3⟩

theorem CRel.one {E : Enc U} {g : G} {ob : List (Option (Ob U))} {w : World} {v : Value} {c : C U} (hc : CRel P E g ob w v c) : oneC v = true := by
  cases c with
  | s x => rw [hc.1]; exact hc.2
  | sl τ xs t => exact hc.1.one
  | ob k ver => exact hc.1
  | bx k off => rw [hc.2]; rfl
  | el τ xs i off => obtain ⟨_, b, o, cap, h2, _⟩ := hc; rw [h2]; rfl
  | em k ver i off => exact hc.1
  | fv φ => exact FunRel.one hc
  | fc f caps => rw [hc.1]; rfl
  | top => exact hc

theorem CRel.mono {E : Enc U} {g g' : G} {ob ob' : List (Option (Ob U))} {w w' : World} (h : GLe g ob w g' ob' w') {v : Value} {c : C U} (hc : CRel P E g ob w v c) : CRel P E g' ob' w' v c := by
  cases c with
  | s x => exact hc
  | sl τ xs t => exact ⟨hc.1.mono h.st, hc.2⟩
  | ob k ver =>
    obtain ⟨h1, o, h2, h3, h4⟩ := hc
    obtain ⟨o', k1, k2, k3⟩ := h.ob k o h2
    refine ⟨h1, o', k1, Nat.le_trans h3 k2, fun e => ?_⟩
    obtain ⟨a1, _, a3⟩ := k3 (by omega)
    rw [a1, a3]; exact h4 (by omega)
  | bx k off => exact ⟨(h.lb k hc.1).1, by rw [(h.lb k hc.1).2]; exact hc.2⟩
  | el τ xs i off =>
    obtain ⟨h1, b, o, cap, h2, h3⟩ := hc
    exact ⟨h1, b, o, cap, h2, h3.mono h.st⟩
  | em k ver i off =>
    obtain ⟨h1, o, h2, h3, h4⟩ := hc
    obtain ⟨o', k1, k2, k3⟩ := h.ob k o h2
    refine ⟨h1, o', k1, Nat.le_trans h3 k2, fun e => ?_⟩
    obtain ⟨a1, a2, a3⟩ := k3 (by omega)
    obtain ⟨c1, b, o'', c2, c3⟩ := h4 (by omega)
    exact ⟨by rw [a1]; exact c1, b, o'', by rw [a3]; exact c2, by rw [a2]; exact c3⟩
  | fv φ => exact FunRel.mono h.st hc
  | fc f caps =>
    refine ⟨?_, fun k hk => (h.lb k (hc.2 k hk)).1⟩
    rw [hc.1]
    unfold capPtrs
    congr 2
    refine List.map_congr_left fun k hk => ?_
    rw [(h.lb k (hc.2 k hk)).2]
  | top => exact hc

def ARel (P : Program) (E : Enc U) (g : G) (ob : List (Option (Ob U))) (w : World) (v : Value) : A U → Prop
  | .c x => CRel P E g ob w v x
  | .agg cs => ∃ arr : Array Value, v = .agg arr ∧ All2 (CRel P E g ob w) arr.toList cs
  | .top => True
def AVRel (P : Program) (E : Enc U) (g : G) (ob : List (Option (Ob U))) (w : World) (v : Value) : AV U → Prop
  | .one a => ARel P E g ob w v a
  | .tup al => ∃ arr : Array Value, v = .tuple arr ∧ All2 (ARel P E g ob w) arr.toList al
  | .undef => v = undef

theorem ARel.mono {E : Enc U} {g g' : G} {ob ob' : List (Option (Ob U))} {w w' : World} (h : GLe g ob w g' ob' w') {v : Value} {a : A U} (ha : ARel P E g ob w v a) : ARel P E g' ob' w' v a := by
  cases a with
  | c x => exact CRel.mono h ha
  | agg cs => obtain ⟨arr, h1, h2⟩ := ha; exact ⟨arr, h1, h2.imp fun _ _ => CRel.mono h⟩
  | top => trivial
theorem AVRel.mono {E : Enc U} {g g' : G} {ob ob' : List (Option (Ob U))} {w w' : World} (h : GLe g ob w g' ob' w') {v : Value} {a : AV U} (ha : AVRel P E g ob w v a) : AVRel P E g' ob' w' v a := by
  cases a with
  | one a => exact ARel.mono h ha
  | tup al => obtain ⟨arr, h1, h2⟩ := ha; exact ⟨arr, h1, h2.imp fun _ _ => ARel.mono h⟩
  | undef => exact ha
theorem retAV_rel {E : Enc U} {g : G} {ob : List (Option (Ob U))} {w : World} {v : Value} {rs : List (A U)} : AVRel P E g ob w v (retAV rs) ↔ RetRel (ARel P E g ob w) v rs := by
  match rs with
  | [] => exact Iff.rfl
  | [_] => exact Iff.rfl
  | _ :: _ :: _ => exact Iff.rfl

/-- A box: its cells. -/
def BoxRel (P : Program) (E : Enc U) (g : G) (ob : List (Option (Ob U))) (w : World) (k : Nat) (fz : Bool) (cells : List (C U)) : Prop :=
  ∃ vs : List Value, All2 (CRel P E g ob w) vs cells ∧ ∀ (i : Nat) v, vs[i]? = some v → w.cell? ⟨g.β k, i, none⟩ = some v ∧
    (fz = false → stuck w ⟨g.β k, i, none⟩ = false ∧ g.ω (g.β k) i = some (.box k)) ∧ (fz = true → g.St (g.β k) i)

/-- A cell of an object's content: below 'fr' it stands still, from there on it is the object's. -/
def Mode (g : G) (w : World) (k : Nat) (fr : Option Nat) (i b o : Nat) : Prop :=
  match fr with
  | none => g.St b o
  | some f => (i < f → g.St b o) ∧ (f ≤ i → g.ω b o = some (.obj k) ∧ stuck w ⟨b, o, none⟩ = false)

structure ObAt (E : Enc U) (g : G) (w : World) (k : Nat) (o : Ob U) (b off cap : Nat) (cv : Nat → Nat → Value) : Prop where
  cell : ∀ i j, i < o.xs.length → j < U.sz o.τ → w.cell? ⟨b, off + i * U.sz o.τ + j, none⟩ = some (cv i j) ∧ Mode g w k o.fr i b (off + i * U.sz o.τ + j)
  rel : ∀ i (hi : i < o.xs.length) j d, (E.enc o.τ o.xs[i])[j]? = some d → VRel E g.St w (cv i j) d
  spare : o.live = true → ∀ x, o.xs.length * U.sz o.τ ≤ x → x < cap * U.sz o.τ → g.ω b (off + x) = some (.obj k) ∧ (∃ v, w.cell? ⟨b, off + x, none⟩ = some v) ∧ stuck w ⟨b, off + x, none⟩ = false

def ObRel (E : Enc U) (g : G) (w : World) (k : Nat) (o : Ob U) : Prop :=
  ((o.xs.length ≤ (g.tk k).2 ∧ o.xs.length ≤ 9223372036854775807) ∧ ∀ f, o.fr = some f → f ≤ o.xs.length) ∧ (0 < (g.tk k).2 → ∃ b off cv, (g.tk k).1 = some ⟨b, off, none⟩ ∧ ObAt E g w k o b off (g.tk k).2 cv)

/-- The call's beginning: the world then, and the cells that were there and may be written. -/
structure Fr where
  w0 : World
  own : Nat → Nat → Prop
  st : Nat → Nat → Prop
  nb : Nat
  β : Nat → Nat

structure FExt (fr : Fr) (w : World) : Prop where
  os : w.os = fr.w0.os
  tape : w.tape = fr.w0.tape
  output : w.output = fr.w0.output
  size : fr.w0.heap.size ≤ w.heap.size
  block : ∀ k, k < fr.w0.heap.size → (∀ o, ¬ fr.own k o) → w.heap[k]? = fr.w0.heap[k]?
  cell : ∀ b o, b < fr.w0.heap.size → ¬ fr.own b o → w.cell? ⟨b, o, none⟩ = fr.w0.cell? ⟨b, o, none⟩
  frozen : ∀ b o, b < fr.w0.heap.size → ¬ fr.own b o → stuck w ⟨b, o, none⟩ = stuck fr.w0 ⟨b, o, none⟩

structure Sim (P : Program) (E : Enc U) (fr : Fr) (g : G) (s : S U) (a : Act) (w : World) : Prop where
  ext : FExt fr w
  tms : All2 (AVRel P E g s.ob w) a.tmps.toList s.tm
  bxs : ∀ k fz cells, s.bx[k]? = some (some (fz, cells)) → g.lb k ∧ BoxRel P E g s.ob w k fz cells
  lbs : ∀ k, g.lb k → ∃ c, s.bx[k]? = some (some c)
  obs : ∀ k o, s.ob[k]? = some (some o) → ObRel E g w k o
  own : ∀ b o x, g.ω b o = some x → b < w.heap.size ∧ (fr.w0.heap.size ≤ b ∨ fr.own b o ∨ (x = .st ∧ fr.st b o))
  dfr : a.defers = []
  fix : ∀ k, k < fr.nb → g.lb k → g.β k = fr.β k
  bas : fr.nb ≤ s.base

theorem Sim.wr {E : Enc U} {fr : Fr} {g : G} {s : S U} {a : Act} {w : World} (h : Sim P E fr g s a w) {b o : Nat} {x : Own} (hx : g.ω b o = some x) (hne : x ≠ .st) : fr.w0.heap.size ≤ b ∨ fr.own b o := by
  rcases (h.own b o x hx).2 with h1 | h1 | ⟨h1, _⟩
  · exact .inl h1
  · exact .inr h1
  · exact (hne h1).elim
end Go.Proofs.Ytaepcbdcjbfgjaa.B
