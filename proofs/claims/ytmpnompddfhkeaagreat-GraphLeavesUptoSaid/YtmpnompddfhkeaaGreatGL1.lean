/- Part 1 of the proof: Base BDef BRel BRun BSim BTab BSim2. -/
import Derived.WalkKit
import Derived.ProofKit
import Derived.OpenShut
import Derived.Lib.Hide
import Derived.WalkLawsBesides
import Derived.BigQuiet
import Derived.Deep.QuietTactic
namespace Go.Proofs.YtmpnompddfhkeaaGreat
open Go.RowKit
def Ext (w w' : World) : Prop := Below w.heap.size w w'
theorem Ext.refl (w : World) : Ext w w := Below.refl _ _
theorem Ext.trans {a b c : World} (h : Ext a b) (k : Ext b c) : Ext a c := Below.trans h (Below.mono k h.size)
theorem Ext.alloc {a b : World} (h : Ext a b) (o : Obj) : Ext a (b.alloc o) := Below.alloc h h.size o
theorem Ext.drew {a b : World} (h : Ext a b) : Ext a b.drew := Below.drew h
theorem Ext.setCell {a b : World} (h : Ext a b) {p : Addr} (hp : a.heap.size ≤ p.block) (u : Value) : Ext a (b.setCell p u) := Below.setCell h hp u
theorem Ext.cell {a b : World} (h : Ext a b) {p : Addr} (hp : p.block < a.heap.size) : b.cell? p = a.cell? p := Below.cell h hp
theorem Ext.frozen {a b : World} (h : Ext a b) {p : Addr} (hp : p.block < a.heap.size) : b.frozen? p = a.frozen? p := Below.frozen h hp
def stuck (w : World) (p : Addr) : Bool := w.frozen? p || (match w.shape? p.block with | some (_, n) => w.frozen? ⟨p.block, n, none⟩ | none => false)
theorem stuck_no {w : World} {p : Addr} (h : stuck w p = false) : w.frozen? p = false := (Bool.or_eq_false_iff.1 h).1
theorem stuck_heap {w w' : World} {p : Addr} (h : w'.heap[p.block]? = w.heap[p.block]?) : stuck w' p = stuck w p := by
  unfold stuck World.frozen? World.shape?
  simp only [h]
theorem stuck_setCell (w : World) (a : Addr) (v : Value) (p : Addr) : stuck (w.setCell a v) p = stuck w p := by
  have hs : (w.setCell a v).shape? p.block = w.shape? p.block := by
    unfold World.shape? World.setCell
    simp only [Array.getElem?_modify]
    by_cases h : a.block = p.block
    · rw [if_pos h]
      cases w.heap[p.block]? with
      | none => rfl
      | some o => cases o <;> (try rfl); simp only [Option.map_some]; split <;> simp_all
    · rw [if_neg h]
  unfold stuck
  simp only [World.frozen?_setCell, hs]
@[simp] theorem stuck_new (w : World) (arr : Array Value) (t : TypeId) (o : Nat) : stuck (w.alloc (.cells arr t)) ⟨w.heap.size, o, none⟩ = false := by
  unfold stuck World.shape? World.frozen? World.alloc
  simp
theorem Ext.stuck {a b : World} (h : Ext a b) {p : Addr} (hp : p.block < a.heap.size) : stuck b p = stuck a p := stuck_heap (Below.block h _ hp)
theorem Ext.le {a b : World} (h : Ext a b) : a.heap.size ≤ b.heap.size := h.size
theorem Ext.block {a b : World} (h : Ext a b) {k : Nat} (hk : k < a.heap.size) : b.heap[k]? = a.heap[k]? := Below.block h k hk
theorem lt_of_cell {w : World} {p : Addr} {v : Value} (h : w.cell? p = some v) : p.block < w.heap.size := by
  unfold World.cell? at h
  rcases Nat.lt_or_ge p.block w.heap.size with hl | hl
  · exact hl
  · rw [Array.getElem?_eq_none hl] at h; simp at h
theorem Ext.keeps {a b : World} (h : Ext a b) {p : Addr} {v : Value} (hc : a.cell? p = some v) : b.cell? p = some v := by
  rw [h.cell (lt_of_cell hc)]; exact hc
end Go.Proofs.YtmpnompddfhkeaaGreat
namespace Go.Proofs.YtmpnompddfhkeaaGreat.B
open Go
structure Uni where
  Ty : Type
  deq : DecidableEq Ty
  Den : Ty → Type
  dflt : (τ : Ty) → Den τ
  sz : Ty → Nat
inductive V (U : Uni) : Type
  | s (x : Value)
  | dat (τ : U.Ty) (xs : List (U.Den τ))
inductive D0 (U : Uni) : Type
  | v (x : V U)
  | agg (xs : List (V U))
def FV (U : Uni) : Type := List (D0 U) → Option (List Prop × List (D0 U))
inductive C (U : Uni) : Type
  | s (x : Value)
  | sl (τ : U.Ty) (xs : List (U.Den τ)) (full : Bool)
  | ob (k v : Nat)
  | bx (k off : Nat)
  | el (τ : U.Ty) (xs : List (U.Den τ)) (i off : Nat)
  | em (k v i off : Nat)
  | fv (φ : FV U)
  | fc (f : Nat) (caps : List Nat)
  | top
inductive A (U : Uni) : Type
  | c (x : C U)
  | agg (cs : List (C U))
  | top
inductive AV (U : Uni) : Type
  | one (a : A U)
  | tup (al : List (A U))
  | undef
structure Enc (U : Uni) where
  enc : (τ : U.Ty) → U.Den τ → List (V U)
  dec : (τ : U.Ty) → List (V U) → Option (U.Den τ)
  len : ∀ τ x, (enc τ x).length = U.sz τ
  back : ∀ τ cs x, dec τ cs = some x → enc τ x = cs
inductive DC (U : Uni) : Type
  | v (x : V U)
  | fn (φ : FV U)
inductive D (U : Uni) : Type
  | d (x : D0 U)
  | fn (φ : FV U)
  | box (cs : List (DC U))
structure Ob (U : Uni) where
  ver : Nat
  τ : U.Ty
  xs : List (U.Den τ)
  fr : Option Nat
  live : Bool
variable {U : Uni}
def oneC : Value → Bool
  | .agg _ => false
  | .tuple _ => false
  | .int k n => decide (k.min ≤ n ∧ n ≤ k.max)
  | .string b => decide (b.size ≤ maxLen)
  | _ => true
def C.ofV : V U → C U
  | .s x => .s x
  | .dat τ xs => .sl τ xs false
def D0.toA : D0 U → A U
  | .v x => .c (C.ofV x)
  | .agg xs => .agg (xs.map C.ofV)
inductive TI (U : Uni) : Type
  | int (k : IntKind)
  | bool
  | str
  | sl (e : TypeId) (τ : U.Ty) (bytes : Nat)
  | st (fs : List (Nat × Nat × Bool)) (n : Nat)
  | ar (len esz : Nat) (eagg : Bool)
  | one
  | oth
def TI.shape : TI U → Option (Bool × Nat)
  | .st _ n => some (true, n)
  | .ar len esz _ => some (true, len * esz)
  | .oth => none
  | _ => some (false, 1)
structure S (U : Uni) where
  tm : List (AV U)
  bx : List (Option (Bool × List (C U)))
  ob : List (Option (Ob U))
  base : Nat
def FnC (U : Uni) : Type := List (D U) → Option (List Prop × List (A U) × List (Ob U))
def FnG (U : Uni) : Type := List (A U) → List (Bool × List (C U)) → List (Ob U) → Option (List Prop × List (A U) × List (Bool × List (C U)) × List (Ob U))
inductive EK
  | int (k : IntKind)
  | str
  | bool
def FnU (U : Uni) : Type := (τ : U.Ty) → List (U.Den τ) → List (D U) → Option (List Prop × List (U.Den τ))
structure Mc (U : Uni) where
  E : Enc U
  tab : List (TypeId × TI U)
  zeros : List (TypeId × List (C U))
  fns : FuncId → Option (FnC U)
  fvs : FuncId → Option (FV U)
  clo : FuncId → Option (List (List (DC U)) → Option (FV U))
  gns : FuncId → Option (List Bool × FnG U)
  eqs : List (TypeId × List EK)
  ups : FuncId → Option (FnU U)
def look {α : Type} (t : Nat) : List (Nat × α) → Option α
  | [] => none
  | (k, x) :: r => match Nat.beq k t with | true => some x | false => look t r
def Mc.ti (M : Mc U) (t : TypeId) : TI U := match look t M.tab with | some x => x | none => .oth
def Mc.zero (M : Mc U) (t : TypeId) : Option (List (C U)) := look t M.zeros
def sets {α : Type} : List α → List (Nat × α) → List α
  | l, [] => l
  | l, (k, x) :: r => sets (l.set k x) r
def evC : Value → Option (AV U)
  | .int k n => match oneC (.int k n) with | true => some (.one (.c (.s (.int k n)))) | false => none
  | .bool b => some (.one (.c (.s (.bool b))))
  | .string b => match oneC (.string b) with | true => some (.one (.c (.s (.string b)))) | false => none
  | .nilFunc => some (.one (.c (.s .nilFunc)))
  | _ => none
def S.ev (s : S U) (M : Mc U) : Operand → Option (AV U)
  | .tmp t => s.tm[t]?
  | .const c => evC c
  | .func f => match M.fvs f with
    | some φ => some (.one (.c (.fv φ)))
    | none => some (.one (.c (.fc f [])))
  | .global _ => none
def isNilSlice : Operand → Bool
  | .const (.slice none 0 0) => true
  | _ => false
def S.evT (M : Mc U) (s : S U) (t : TypeId) (x : Operand) : Option (AV U) :=
  match isNilSlice x with
  | true => match M.ti t with
    | .sl _ τ _ => some (.one (.c (.sl τ [] true)))
    | _ => none
  | false => s.ev M x
def AV.cells : AV U → Option (List (C U))
  | .one (.c x) => some [x]
  | .one (.agg cs) => some cs
  | _ => none
def mkAV (agg : Bool) (cs : List (C U)) : Option (AV U) :=
  match agg, cs with
  | true, cs => some (.one (.agg cs))
  | false, [x] => some (.one (.c x))
  | _, _ => none
def S.key (s : S U) (d : Nat) : Nat := s.base + d
def S.okey (s : S U) (d : Nat) : Nat := 4 * (s.base + d)
def S.obAt (s : S U) (k v : Nat) : Option (Ob U) :=
  match s.ob[k]? with
  | some (some o) => match Nat.beq o.ver v with | true => some o | false => none
  | _ => none
def S.nver (s : S U) (q : Nat) : Option Nat :=
  match s.ob[q]? with
  | some (some o) => some (o.ver + 1)
  | some none => some 0
  | none => none
def S.lst (s : S U) : C U → Option ((τ : U.Ty) × List (U.Den τ))
  | .sl τ xs _ => some ⟨τ, xs⟩
  | .ob k v => match s.obAt k v with | some o => some ⟨o.τ, o.xs⟩ | none => none
  | _ => none
def S.toV (s : S U) : C U → Option (V U)
  | .s x => some (.s x)
  | .sl τ xs _ => some (.dat τ xs)
  | .ob k v => match s.obAt k v with | some o => some (.dat o.τ o.xs) | none => none
  | _ => none
def S.toVs (s : S U) : List (C U) → Option (List (V U))
  | [] => some []
  | c :: cs => match s.toV c, s.toVs cs with
    | some v, some vs => some (v :: vs)
    | _, _ => none
def C.obs : C U → List Nat
  | .ob k _ => [k]
  | .em k _ _ _ => [k]
  | _ => []
def Cs.obs : List (C U) → List Nat
  | [] => []
  | c :: cs => c.obs ++ Cs.obs cs
def A.obs : A U → List Nat
  | .c x => x.obs
  | .agg cs => Cs.obs cs
  | .top => []
def As.obs : List (A U) → List Nat
  | [] => []
  | a :: l => a.obs ++ As.obs l
def AV.obs : AV U → List Nat
  | .one a => a.obs
  | .tup al => As.obs al
  | .undef => []
def S.frz (s : S U) : List Nat → List (Nat × Option (Ob U))
  | [] => []
  | k :: ks => match s.ob[k]? with
    | some (some o) => (k, some { o with fr := none }) :: s.frz ks
    | _ => s.frz ks
def S.toD (s : S U) : A U → Option (D U)
  | .c (.fv φ) => some (.fn φ)
  | .c x => match s.toV x with | some d => some (.d (.v d)) | none => none
  | .agg cs => match s.toVs cs with | some ds => some (.d (.agg ds)) | none => none
  | _ => none
def S.toDs (s : S U) : List (A U) → Option (List (D U))
  | [] => some []
  | x :: r => match s.toD x, s.toDs r with
    | some d, some ds => some (d :: ds)
    | _, _ => none
def S.toD0 (s : S U) : A U → Option (D0 U)
  | .c x => match s.toV x with | some d => some (.v d) | none => none
  | .agg cs => match s.toVs cs with | some ds => some (.agg ds) | none => none
  | _ => none
def S.toD0s (s : S U) : List (A U) → Option (List (D0 U))
  | [] => some []
  | x :: r => match s.toD0 x, s.toD0s r with
    | some d, some ds => some (d :: ds)
    | _, _ => none
def S.toDC (s : S U) : C U → Option (DC U)
  | .fv φ => some (.fn φ)
  | x => match s.toV x with | some d => some (.v d) | none => none
def S.toDCs (s : S U) : List (C U) → Option (List (DC U))
  | [] => some []
  | x :: r => match s.toDC x, s.toDCs r with
    | some d, some ds => some (d :: ds)
    | _, _ => none
structure Res (U : Uni) where
  ob : List Prop
  v : AV U
  bw : List (Nat × Option (Bool × List (C U)))
  ow : List (Nat × Option (Ob U))
def ok (v : AV U) : Option (Res U) := some ⟨[], v, [], []⟩
def okR (v : Option (AV U)) : Option (Res U) := match v with | some v => ok v | none => none
def sbin (op : BinOp) (x y : Value) : Option (List Prop × Value) :=
  match x, y with
  | .int k a, .int k' b =>
    match op with
    | .shl => some ([¬ b < 0], .int k (k.wrap (a * 2 ^ (min b.toNat k.bits))))
    | .shr => some ([¬ b < 0], .int k (a.fdiv (2 ^ (min b.toNat k.bits))))
    | op =>
      if k = k' then
        match op with
        | .add => some ([], .int k (k.wrap (a + b)))
        | .sub => some ([], .int k (k.wrap (a - b)))
        | .mul => some ([], .int k (k.wrap (a * b)))
        | .quo => some ([¬ b = 0], .int k (k.wrap (a.tdiv b)))
        | .rem => some ([¬ b = 0], .int k (a.tmod b))
        | .eql => some ([], .bool (a == b))
        | .neq => some ([], .bool (a != b))
        | .lss => some ([], .bool (decide (a < b)))
        | .leq => some ([], .bool (decide (a ≤ b)))
        | .gtr => some ([], .bool (decide (a > b)))
        | .geq => some ([], .bool (decide (a ≥ b)))
        | .and => some ([], .int k (k.wrap (BitVec.ofInt k.bits a &&& BitVec.ofInt k.bits b).toNat))
        | .or => some ([], .int k (k.wrap (BitVec.ofInt k.bits a ||| BitVec.ofInt k.bits b).toNat))
        | .andNot => some ([], .int k (k.wrap (BitVec.ofInt k.bits a &&& ~~~BitVec.ofInt k.bits b).toNat))
        | .xor => some ([], .int k (k.wrap (BitVec.ofInt k.bits a ^^^ BitVec.ofInt k.bits b).toNat))
        | _ => none
      else none
  | .string a, .string b =>
    match op with
    | .add => some ([a.size + b.size ≤ 9223372036854775807], .string (a ++ b))
    | .eql => some ([], .bool (a.toList == b.toList))
    | .neq => some ([], .bool (!(a.toList == b.toList)))
    | .lss => some ([], .bool (Op.bytesLess a.toList b.toList))
    | .leq => some ([], .bool (Op.bytesLess a.toList b.toList || a.toList == b.toList))
    | .gtr => some ([], .bool (!(Op.bytesLess a.toList b.toList || a.toList == b.toList)))
    | .geq => some ([], .bool (!Op.bytesLess a.toList b.toList))
    | _ => none
  | _, _ => none
def andB (es : List EK) (b r : Bool) : Bool := match es with | [] => b | _ => b && r
def eqCells : List EK → List (C U) → List (C U) → Option Bool
  | [], [], [] => some true
  | .int k :: es, .s (.int k1 a) :: xs, .s (.int k2 b) :: ys => match decEq k1 k, decEq k2 k, eqCells es xs ys with
    | .isTrue _, .isTrue _, some r => some (andB es (a == b) r)
    | _, _, _ => none
  | .str :: es, .s (.string a) :: xs, .s (.string b) :: ys => match eqCells es xs ys with
    | some r => some (andB es (a.toList == b.toList) r)
    | none => none
  | .bool :: es, .s (.bool a) :: xs, .s (.bool b) :: ys => match eqCells es xs ys with
    | some r => some (andB es (a == b) r)
    | none => none
  | _, _, _ => none
def effEq (M : Mc U) (op : BinOp) (t : TypeId) (cs ds : List (C U)) : Option (Res U) :=
  match look t M.eqs with
  | some es => match eqCells es cs ds, op with
    | some r, .eql => ok (.one (.c (.s (.bool r))))
    | some r, .neq => ok (.one (.c (.s (.bool (!r)))))
    | _, _ => none
  | none => none
def S.at (M : Mc U) (s : S U) (a : C U) (n : Nat) : Option (List (C U)) :=
  match a with
  | .bx k off => match s.bx[k]? with
    | some (some (_, cells)) => if off + n ≤ cells.length then some ((cells.drop off).take n) else none
    | _ => none
  | .el τ xs i off => if off + n ≤ U.sz τ then some ((((M.E.enc τ (xs.getD i (U.dflt τ))).drop off).take n).map C.ofV) else none
  | .em k v i off => match s.obAt k v with
    | some o => if off + n ≤ U.sz o.τ then some ((((M.E.enc o.τ (o.xs.getD i (U.dflt o.τ))).drop off).take n).map C.ofV) else none
    | none => none
  | _ => none
def S.move (s : S U) (d : Nat) : C U → Option (C U)
  | .bx k off => some (.bx k (off + d))
  | .el τ xs i off => some (.el τ xs i (off + d))
  | .em k v i off => match s.obAt k v with | some _ => some (.em k v i (off + d)) | none => none
  | _ => none
def fillC {α : Type} (place : Nat → Option (Nat × Nat)) (cells : List α) : List (Nat × List α) → Option (List α)
  | [] => some cells
  | (i, cs) :: rest => match place i with
    | none => none
    | some (off, size) => if cs.length = size ∧ off + size ≤ cells.length then fillC place (cells.take off ++ cs ++ cells.drop (off + size)) rest else none
def partsC (M : Mc U) (s : S U) : List (Nat × Operand) → Option (List (Nat × List (C U)))
  | [] => some []
  | (i, x) :: r => match (s.ev M x).bind AV.cells, partsC M s r with
    | some cs, some l => some ((i, cs) :: l)
    | _, _ => none
def zB : Value → C U → Bool
  | .int k n, .s (.int k' n') => decide (k = k') && n == n' && oneC (.int k n)
  | .bool b, .s (.bool b') => b == b'
  | .string b, .s (.string b') => b.data == b'.data && oneC (.string b)
  | .nilIface, .s .nilIface => true
  | .nilFunc, .s .nilFunc => true
  | .slice none 0 0, .sl _ [] true => true
  | _, _ => false
def zsB : List Value → List (C U) → Bool
  | [], [] => true
  | v :: vs, c :: cs => zB v c && zsB vs cs
  | _, _ => false
def partK (M : Mc U) (s : S U) (e : TypeId) (x : Operand) : Option (List (C U)) :=
  match x with
  | .const (.agg arr) => match M.zero e with
    | some z => match zsB arr.toList z with | true => some z | false => none
    | none => none
  | x => (s.evT M e x).bind AV.cells
def partsK (M : Mc U) (s : S U) (e : TypeId) : List (Nat × Operand) → Option (List (Nat × List (C U)))
  | [] => some []
  | (i, x) :: r => match partK M s e x, partsK M s e r with
    | some cs, some l => some ((i, cs) :: l)
    | _, _ => none
def decRows (M : Mc U) (s : S U) (τ : U.Ty) : List (List (C U)) → Option (List (U.Den τ))
  | [] => some []
  | r :: rs => match (s.toVs r).bind (M.E.dec τ), decRows M s τ rs with
    | some x, some xs => some (x :: xs)
    | _, _ => none
def chunks {α : Type} (n : Nat) : Nat → List α → List (List α)
  | 0, _ => []
  | len + 1, cs => cs.take n :: chunks n len (cs.drop n)
def roomB : Nat := 35184372088832
def castDen {τ τ' : U.Ty} (h : τ' = τ) (xs : List (U.Den τ')) : List (U.Den τ) := h ▸ xs
def evArgs (M : Mc U) (s : S U) : List Operand → List TypeId → Option (List (A U))
  | [], _ => some []
  | x :: xs, ts => match s.evT M (ts.headD 0) x, evArgs M s xs ts.tail with
    | some (.one a), some al => some (a :: al)
    | _, _ => none
def retAV : List (A U) → AV U
  | [a] => .one a
  | al => .tup al
def asInts : List (A U) → Option (List Int)
  | [] => some []
  | .c (.s (.int .i64 n)) :: r => (asInts r).map (n :: ·)
  | _ => none
def Ob.spent (o : Ob U) : Ob U :=
  match o.fr with
  | none => { o with live := false }
  | some _ => ⟨o.ver + 1, o.τ, [], none, false⟩
def Ob.frozen (o : Ob U) : Nat := match o.fr with | none => o.xs.length | some j => j
def effAppend (s : S U) (M : Mc U) (d : Nat) (tx : TypeId) (x y : AV U) : Option (Res U) :=
  match y with
  | .one (.c cy) => match M.ti tx, s.lst cy, s.nver (s.okey d) with
    | .sl _ τ₀ bytes, some ⟨τ', ys⟩, some ver =>
      match x with
      | .one (.c (.sl τ xs true)) => match U.deq τ' τ, U.deq τ₀ τ with
        | .isTrue h, .isTrue _ => some ⟨[(xs.length + ys.length) * bytes ≤ roomB], .one (.c (.ob (s.okey d) ver)), [], [(s.okey d, some ⟨ver, τ, xs ++ castDen h ys, some xs.length, true⟩)]⟩
        | _, _ => none
      | .one (.c (.ob k v)) => match s.obAt k v with
        | some o => match o.live with
          | true => match U.deq τ' o.τ, U.deq τ₀ o.τ with
            | .isTrue h, .isTrue _ => some ⟨[(o.xs.length + ys.length) * bytes ≤ roomB], .one (.c (.ob (s.okey d) ver)), [], [(k, some o.spent), (s.okey d, some ⟨ver, o.τ, o.xs ++ castDen h ys, some o.frozen, true⟩)]⟩
            | _, _ => none
          | false => none
        | none => none
      | _ => none
    | _, _, _ => none
  | _ => none
def effBuiltin (s : S U) (M : Mc U) (o : Oper) (b : Builtin) (c : Call) : Option (Res U) :=
  match b with
  | .len => match c.args.toList, c.argTypes.toList with
    | [x], [t] => match s.ev M x, M.ti t with
      | some (.one (.c (.s (.string b)))), .str => ok (.one (.c (.s (.int .i64 (b.size : Nat)))))
      | some (.one (.c cx)), .sl _ _ _ => match s.lst cx with
        | some ⟨_, xs⟩ => ok (.one (.c (.s (.int .i64 (xs.length : Nat)))))
        | none => none
      | _, _ => none
    | _, _ => none
  | .append => match c.args.toList, c.argTypes.toList, o.dst with
    | [x, y], [tx, ty], some d => match s.evT M tx x, s.evT M ty y, M.ti ty with
      | some vx, some vy, .sl _ _ _ => effAppend s M d tx vx vy
      | _, _, _ => none
    | _, _, _ => none
  | .min => match (evArgs M s c.args.toList c.argTypes.toList).bind asInts with
    | some (n :: r) => ok (.one (.c (.s (.int .i64 (r.foldl (fun a b => if b < a then b else a) n)))))
    | _ => none
  | .max => match (evArgs M s c.args.toList c.argTypes.toList).bind asInts with
    | some (n :: r) => ok (.one (.c (.s (.int .i64 (r.foldl (fun a b => if a < b then b else a) n)))))
    | _ => none
  | _ => none
def C.ret (q : Nat) (vers : List Nat) : C U → Option (C U)
  | .s x => some (.s x)
  | .sl τ xs f => some (.sl τ xs f)
  | .ob j 0 => match vers[j]? with | some v => some (.ob (q + j) v) | none => none
  | .fv φ => some (.fv φ)
  | _ => none
def Cs.ret (q : Nat) (vers : List Nat) : List (C U) → Option (List (C U))
  | [] => some []
  | c :: cs => match c.ret q vers, Cs.ret q vers cs with
    | some x, some xs => some (x :: xs)
    | _, _ => none
def A.ret (q : Nat) (vers : List Nat) : A U → Option (A U)
  | .c x => match x.ret q vers with | some y => some (.c y) | none => none
  | .agg cs => match Cs.ret q vers cs with | some ys => some (.agg ys) | none => none
  | .top => none
def As.ret (q : Nat) (vers : List Nat) : List (A U) → Option (List (A U))
  | [] => some []
  | a :: l => match a.ret q vers, As.ret q vers l with
    | some x, some xs => some (x :: xs)
    | _, _ => none
def C.scal : C U → Bool
  | .s _ => true
  | _ => false
def A.scal : A U → Bool
  | .c x => x.scal
  | .agg cs => cs.all C.scal
  | .top => false
def S.vers (s : S U) (q : Nat) : List (Ob U) → Option (List Nat)
  | [] => some []
  | _ :: r => match s.nver q, s.vers (q + 1) r with
    | some v, some vs => some (v :: vs)
    | _, _ => none
def placed (q : Nat) : List (Ob U) → List Nat → List (Nat × Option (Ob U))
  | o :: r, v :: vs => (q, some { o with ver := v }) :: placed (q + 1) r vs
  | _, _ => []
def effPure (M : Mc U) (s : S U) (d : Nat) (F : FnC U) (al : List (A U)) : Option (Res U) :=
  match s.toDs al with
  | some ds => match F ds with
    | some (ob, rs, os) => if os.length ≤ 4 then match s.vers (s.okey d) os with
      | some vers => match As.ret (s.okey d) vers rs with
        | some rs' => match rs.all A.scal, os with
          | true, [] => some ⟨ob, retAV rs', [], []⟩
          | _, os => some ⟨ob, retAV rs', [], s.frz (As.obs al) ++ placed (s.okey d) os vers⟩
        | none => none
      | none => none else none
    | none => none
  | none => none
def D0.scal : D0 U → Bool
  | .v (.s _) => true
  | .agg xs => xs.all fun | .s _ => true | .dat _ _ => false
  | _ => false
def effFv (s : S U) (φ : FV U) (al : List (A U)) : Option (Res U) :=
  match s.toD0s al with
  | some ds => match φ ds with
    | some (ob, rs) => some ⟨ob, retAV (rs.map D0.toA), [], match rs.all D0.scal with | true => [] | false => s.frz (As.obs al)⟩
    | none => none
  | none => none
def meets : List Nat → List Nat → Bool
  | [], _ => false
  | x :: l, r => r.any (Nat.beq x) || meets l r
def unlike : List Nat → Bool
  | [] => true
  | x :: l => !l.any (Nat.beq x) && unlike l
def idx (k : Nat) : List Nat → Nat → Option Nat
  | [], _ => none
  | x :: r, j => match Nat.beq x k with | true => some j | false => idx k r (j + 1)
def C.pass (s : S U) (ks oks : List Nat) : C U → C U
  | .s x => .s x
  | .sl τ xs f => .sl τ xs f
  | .ob k v => match s.obAt k v, idx k oks 0 with | some _, some j => .ob j 0 | _, _ => .top
  | .em k v i off => match s.obAt k v, idx k oks 0 with | some _, some j => .em j 0 i off | _, _ => .top
  | .bx k off => match idx k ks 0 with | some i => .bx i off | none => .top
  | .el τ xs i off => .el τ xs i off
  | .fv φ => .fv φ
  | .fc _ _ => .top
  | .top => .top
def idxs (ks : List Nat) : List Nat → Option (List Nat)
  | [] => some []
  | k :: r => match idx k ks 0, idxs ks r with
    | some i, some l => some (i :: l)
    | _, _ => none
def argG (s : S U) (ks oks : List Nat) (m : Bool) : A U → Option (A U)
  | .agg cs => match s.toVs cs with | some ds => some (.agg (ds.map C.ofV)) | none => none
  | .c x => match m, x with
    | _, .bx k off => match idx k ks 0 with | some i => some (.c (.bx i off)) | none => none
    | _, .fv φ => some (.c (.fv φ))
    | _, .fc f caps => match idxs ks caps with | some is => some (.c (.fc f is)) | none => none
    | true, x => some (.c (x.pass s ks oks))
    | false, x => match s.toV x with | some d => some (.c (C.ofV d)) | none => none
  | .top => none
def argGs (s : S U) (ks oks : List Nat) : List Bool → List (A U) → Option (List (A U))
  | _, [] => some []
  | ms, a :: l => match argG s ks oks (ms.headD false) a, argGs s ks oks ms.tail l with
    | some x, some xs => some (x :: xs)
    | _, _ => none
def As.bxs : List (A U) → List Nat
  | [] => []
  | .c (.bx k _) :: l => k :: As.bxs l
  | .c (.fc _ ks) :: l => ks ++ As.bxs l
  | _ :: l => As.bxs l
def S.curs (s : S U) : List (C U) → List Nat
  | [] => []
  | .ob k v :: r => (match s.obAt k v with | some _ => [k] | none => []) ++ s.curs r
  | _ :: r => s.curs r
def S.cursB (s : S U) : List (Bool × List (C U)) → List Nat
  | [] => []
  | b :: r => s.curs b.2 ++ s.cursB r
def argOb (s : S U) (own m : Bool) (a : A U) : List Nat :=
  match own, m, a with
  | true, true, .c x => s.curs [x]
  | false, true, .agg cs => Cs.obs cs
  | false, false, a => a.obs
  | _, _, _ => []
def argObs (s : S U) (own : Bool) : List Bool → List (A U) → List Nat
  | _, [] => []
  | ms, a :: l => argOb s own (ms.headD false) a ++ argObs s own ms.tail l
def S.boxesAt (s : S U) : List Nat → Option (List (Bool × List (C U)))
  | [] => some []
  | k :: ks => match s.bx[k]?, s.boxesAt ks with
    | some (some b), some bs => some (b :: bs)
    | _, _ => none
def S.passed (s : S U) : List Nat → Option (List (Ob U))
  | [] => some []
  | k :: ks => match s.ob[k]?, s.passed ks with
    | some (some o), some os => some ({ o with ver := 0 } :: os)
    | _, _ => none
def S.spents (s : S U) : List Nat → List (Nat × Option (Ob U))
  | [] => []
  | k :: ks => match s.ob[k]? with
    | some (some o) => (k, some o.spent) :: s.spents ks
    | _ => s.spents ks
def C.back (ks : List Nat) (q : Nat) (vers : List Nat) : C U → C U
  | .ob j 0 => match vers[j]? with | some v => .ob (q + j) v | none => .top
  | .ob _ _ => .top
  | .em _ _ _ _ => .top
  | .bx i off => match ks[i]? with | some k => .bx k off | none => .top
  | .fc _ _ => .top
  | c => c
def A.back (ks : List Nat) (q : Nat) (vers : List Nat) : A U → A U
  | .c x => .c (x.back ks q vers)
  | .agg cs => .agg (cs.map (C.back ks q vers))
  | .top => .top
def backB (ks : List Nat) (q : Nat) (vers : List Nat) : List Nat → List (Bool × List (C U)) → List (Nat × Option (Bool × List (C U)))
  | k :: r, b :: bs => (k, some (b.1, b.2.map (C.back ks q vers))) :: backB ks q vers r bs
  | _, _ => []
def effG (s : S U) (d : Nat) (F : FnG U) (ms : List Bool) (al : List (A U)) : Option (Res U) :=
  match s.boxesAt (As.bxs al) with
  | some bs => match unlike (As.bxs al) && unlike (argObs s true ms al ++ s.cursB bs) && !meets (argObs s true ms al ++ s.cursB bs) (argObs s false ms al) with
    | true => match s.passed (argObs s true ms al ++ s.cursB bs), argGs s (As.bxs al) (argObs s true ms al ++ s.cursB bs) ms al with
      | some os, some al' => match F al' (bs.map fun b => (b.1, b.2.map (C.pass s (As.bxs al) (argObs s true ms al ++ s.cursB bs)))) os with
        | some (ob, rs, bs', os') => if bs'.length = bs.length ∧ os'.length ≤ 4 then match s.vers (s.okey d) os' with
          | some vers => some ⟨ob, retAV (rs.map (A.back (As.bxs al) (s.okey d) vers)), backB (As.bxs al) (s.okey d) vers (As.bxs al) bs', s.frz (argObs s false ms al) ++ s.spents (argObs s true ms al ++ s.cursB bs) ++ placed (s.okey d) os' vers⟩
          | none => none else none
        | none => none
      | _, _ => none
    | false => none
  | none => none
def nilsC (k : Nat) : List (C U) → Nat → List (Nat × Nat)
  | [], _ => []
  | .sl _ [] true :: r, i => (k, i) :: nilsC k r (i + 1)
  | _ :: r, i => nilsC k r (i + 1)
def S.nils (s : S U) : List Nat → List (Nat × Nat)
  | [] => []
  | k :: ks => (match s.bx[k]? with | some (some (_, cells)) => nilsC k cells 0 | _ => []) ++ s.nils ks
def effGN (d : Nat) (F : FnG U) (ms : List Bool) (al : List (A U)) : List (Nat × Nat) → Nat → S U → Option (Res U)
  | [], _, s => effG s d F ms al
  | (k, i) :: r, j, s => match s.bx[k]?, s.nver (s.okey d + j), Nat.blt j 4 with
    | some (some (fz, cells)), some ver, true => match cells[i]? with
      | some (.sl τ [] true) => match effGN d F ms al r (j + 1) { s with bx := s.bx.set k (some (fz, cells.set i (.ob (s.okey d + j) ver))), ob := s.ob.set (s.okey d + j) (some ⟨ver, τ, [], some 0, true⟩) } with
        | some res => some { res with bw := (k, some (fz, cells.set i (.ob (s.okey d + j) ver))) :: res.bw, ow := (s.okey d + j, some ⟨ver, τ, [], some 0, true⟩) :: res.ow }
        | none => none
      | _ => none
    | _, _, _ => none
def effGO (s : S U) (d : Nat) (F : FnG U) (ms : List Bool) (al : List (A U)) : Option (Res U) :=
  match effG s d F ms al with
  | some r => some r
  | none => effGN d F ms al (s.nils (As.bxs al)) 0 s
def effU (s : S U) (F : FnU U) : List (A U) → Option (Res U)
  | .c (.ob k v) :: al => match s.obAt k v, s.toDs al with
    | some o, some ds => match o.fr, (As.obs al).any (Nat.beq k) with
      | some 0, false => match F o.τ o.xs ds with
        | some (ob, ys) => some ⟨ob, .tup [], [], s.frz (As.obs al) ++ [(k, some { o with xs := ys })]⟩
        | none => none
      | _, _ => none
    | _, _ => none
  | _ => none
def effCall (M : Mc U) (s : S U) (o : Oper) (c : Call) : Option (Res U) :=
  match c.callee with
  | .builtin b => effBuiltin s M o b c
  | .value (.func f) => match M.fns f, evArgs M s c.args.toList c.argTypes.toList, o.dst with
    | some F, some al, some d => effPure M s d F al
    | none, some al, some d => match M.gns f with
      | some (ms, F) => effGO s d F ms al
      | none => match M.ups f with
        | some F => effU s F al
        | none => none
    | none, some al, none => match M.ups f with
      | some F => effU s F al
      | none => none
    | _, _, _ => none
  | .value (.tmp t) => match s.tm[t]?, evArgs M s c.args.toList c.argTypes.toList with
    | some (.one (.c (.fv φ))), some al => effFv s φ al
    | some (.one (.c (.fc f ks))), some al => match M.gns f, o.dst with
      | some (ms, F), some d => effGO s d F ms (al ++ ks.map fun k => .c (.bx k 0))
      | _, _ => none
    | _, _ => none
  | _ => none
def bnd : Option (AV U) → Option Int
  | some (.one (.c (.s (.int _ n)))) => some n
  | _ => none
def bndO (s : S U) (M : Mc U) : Option Operand → Option (Option Int)
  | none => some none
  | some x => match bnd (s.ev M x) with | some n => some (some n) | none => none
def effSlice (s : S U) (ti : TI U) (x : AV U) (lo hi mx : Option Int) : Option (Res U) :=
  match ti, x with
  | .sl _ τ₀ _, .one (.c cx) => match s.lst cx with
    | some ⟨τ, xs⟩ => if U.sz τ₀ = U.sz τ then
        let ow := s.frz cx.obs
        let full := match cx with | .sl _ _ f => f | _ => false
        match lo, hi, mx with
        | none, none, none => some ⟨[], .one (.c cx), [], []⟩
        | some l, none, none => some ⟨[0 ≤ l ∧ l ≤ (xs.length : Int)], .one (.c (.sl τ (xs.drop l.toNat) full)), [], ow⟩
        | none, some h, none => some ⟨[0 ≤ h ∧ h ≤ (xs.length : Int)], .one (.c (.sl τ (xs.take h.toNat) false)), [], ow⟩
        | some l, some h, none => some ⟨[0 ≤ l ∧ l ≤ h ∧ h ≤ (xs.length : Int)], .one (.c (.sl τ ((xs.take h.toNat).drop l.toNat) false)), [], ow⟩
        | none, some h, some m => some ⟨[0 ≤ h ∧ h = m ∧ m ≤ (xs.length : Int)], .one (.c (.sl τ (xs.take h.toNat) true)), [], ow⟩
        | some l, some h, some m => some ⟨[0 ≤ l ∧ l ≤ h ∧ h = m ∧ m ≤ (xs.length : Int)], .one (.c (.sl τ ((xs.take h.toNat).drop l.toNat) true)), [], ow⟩
        | _, _, _ => none
      else none
    | none => none
  | .str, .one (.c (.s (.string b))) =>
      match lo, hi, mx with
      | none, none, none => ok (.one (.c (.s (.string b))))
      | some l, none, none => some ⟨[0 ≤ l ∧ l ≤ (b.size : Int)], .one (.c (.s (.string (b.extract l.toNat b.size)))), [], []⟩
      | none, some h, none => some ⟨[0 ≤ h ∧ h ≤ (b.size : Int)], .one (.c (.s (.string (b.extract 0 h.toNat)))), [], []⟩
      | some l, some h, none => some ⟨[0 ≤ l ∧ l ≤ h ∧ h ≤ (b.size : Int)], .one (.c (.s (.string (b.extract l.toNat h.toNat)))), [], []⟩
      | _, _, _ => none
  | _, _ => none
def effStore (M : Mc U) (s : S U) (p : C U) (cs : List (C U)) : Option (Res U) :=
  match p with
  | .bx k off => match s.bx[k]? with
    | some (some (false, cells)) => if off + cs.length ≤ cells.length then
        match meets (Cs.obs cs) (Cs.obs (cells.take off ++ cells.drop (off + cs.length))) with
        | false => some ⟨[], .undef, [(k, some (false, cells.take off ++ cs ++ cells.drop (off + cs.length)))], []⟩
        | true => match s.toVs cs with
          | some vs => some ⟨[], .undef, [(k, some (false, cells.take off ++ vs.map C.ofV ++ cells.drop (off + cs.length)))], s.frz (Cs.obs cs)⟩
          | none => none
      else none
    | _ => none
  | .em k v i off => match s.obAt k v, s.toVs cs with
    | some o, some vs => match o.fr with
      | some j => if off + vs.length ≤ U.sz o.τ ∧ ¬ k ∈ Cs.obs cs then
          match M.E.dec o.τ ((M.E.enc o.τ (o.xs.getD i (U.dflt o.τ))).take off ++ vs ++ (M.E.enc o.τ (o.xs.getD i (U.dflt o.τ))).drop (off + vs.length)) with
          | some y => some ⟨[j ≤ i], .undef, [], s.frz (Cs.obs cs) ++ [(k, some { o with xs := o.xs.set i y })]⟩
          | none => none
        else none
      | none => none
    | _, _ => none
  | _ => none
def capKeys (s : S U) (M : Mc U) : List Operand → Option (List Nat)
  | [] => some []
  | x :: r => match s.ev M x, capKeys s M r with
    | some (.one (.c (.bx k 0))), some ks => some (k :: ks)
    | _, _ => none
def S.caps (s : S U) : List Nat → Option (List (List (DC U)) × List (Nat × Option (Bool × List (C U))) × List (Nat × Option (Ob U)))
  | [] => some ([], [], [])
  | k :: ks => match s.bx[k]?, s.caps ks with
    | some (some (_, cells)), some (dl, bw, ow) => match s.toDCs cells with
      | some dcs => some (dcs :: dl, (k, some (true, cells)) :: bw, s.frz (Cs.obs cells) ++ ow)
      | none => none
    | _, _ => none
def effFunc (M : Mc U) (s : S U) (f : FuncId) (captured : List Operand) : Option (Res U) :=
  match capKeys s M captured with
  | some ks => match M.clo f with
    | none => ok (.one (.c (.fc f ks)))
    | some F => match s.caps ks with
      | some (dl, bw, ow) => match F dl with
        | some φ => some ⟨[], .one (.c (.fv φ)), bw, ow⟩
        | none => none
      | none => none
  | none => none
def effMake (M : Mc U) (s : S U) (d : Nat) (t : TypeId) (len cap : AV U) : Option (Res U) :=
  match len, cap, M.ti t with
  | .one (.c (.s (.int .i64 n))), .one (.c (.s (.int .i64 c))), .sl e τ bytes => match M.zero e, s.nver (s.okey d) with
    | some z, some ver => if z.length = U.sz τ then match (s.toVs z).bind (M.E.dec τ) with
      | some x => some ⟨[0 ≤ n ∧ n ≤ c ∧ c.toNat * bytes ≤ roomB], .one (.c (.ob (s.okey d) ver)), [], [(s.okey d, some ⟨ver, τ, List.replicate n.toNat x, some 0, true⟩)]⟩
      | none => none else none
    | _, _ => none
  | _, _, _ => none
def eff (M : Mc U) (s : S U) (o : Oper) : Option (Res U) :=
  match o.op with
  | .move x | .assign x => okR (s.evT M o.type x)
  | .pick c a b => match s.ev M c with
    | some (.one (.c (.s (.bool x)))) => okR (match x with | true => s.evT M o.type a | false => s.evT M o.type b)
    | _ => none
  | .alloc t => match M.zero t, o.dst with
    | some cs, some d => match s.bx[s.key d]? with
      | some none => some ⟨[], .one (.c (.bx (s.key d) 0)), [(s.key d, some (false, cs))], []⟩
      | _ => none
    | _, _ => none
  | .box t x => match (s.evT M t x).bind AV.cells, o.dst with
    | some cs, some d => match s.bx[s.key d]? with
      | some none => some ⟨[], .one (.c (.bx (s.key d) 0)), [(s.key d, some (false, cs))], []⟩
      | _ => none
    | _, _ => none
  | .build t ps => match M.zero t, M.ti t, partsC M s ps.toList with
    | some z, .st fs n, some l => if z.length = n then match fillC (fun i => (fs[i]?).map fun f => (f.1, f.2.1)) z l with
      | some cs => ok (.one (.agg cs))
      | none => none else none
    | some z, .ar len esz _, some l => if z.length = len * esz then match fillC (fun i => some (i * esz, esz)) z l with
      | some cs => ok (.one (.agg cs))
      | none => none else none
    | _, _, _ => none
  | .buildSlice t len ps => match M.ti t, o.dst with
    | .sl e τ bytes, some d => match M.zero e, partsK M s e ps.toList, s.nver (s.okey d) with
      | some z, some l, some ver => if z.length = U.sz τ ∧ len * U.sz τ ≤ 4096 ∧ 0 < U.sz τ then match fillC (fun i => some (i * U.sz τ, U.sz τ)) ((List.replicate len z).flatten) l with
        | some cs => match decRows M s τ (chunks (U.sz τ) len cs) with
          | some xs => some ⟨[], .one (.c (.ob (s.okey d) ver)), [], s.frz (Cs.obs cs) ++ [(s.okey d, some ⟨ver, τ, xs, some 0, true⟩)]⟩
          | none => none
        | none => none else none
      | _, _, _ => none
    | _, _ => none
  | .load t a => match s.ev M a with
    | some (.one (.c p)) => match (M.ti t).shape with
      | some (agg, n) => match s.at M p n with
        | some cs => okR (mkAV agg cs)
        | none => none
      | none => none
    | _ => none
  | .store t a x => match s.ev M a, (s.evT M t x).bind AV.cells, o.dst with
    | some (.one (.c p)), some cs, none => match (M.ti t).shape with
      | some (_, n) => if cs.length = n then effStore M s p cs else none
      | none => none
    | _, _, _ => none
  | .nilCheck x => match s.ev M x with
    | some (.one (.c (.bx k off))) => ok (.one (.c (.bx k off)))
    | some (.one (.c (.el τ xs i off))) => ok (.one (.c (.el τ xs i off)))
    | some (.one (.c (.em k v i off))) => match s.obAt k v with | some _ => ok (.one (.c (.em k v i off))) | none => none
    | some (.one (.c (.fv φ))) => ok (.one (.c (.fv φ)))
    | _ => none
  | .binOp op t x y _ => match s.ev M x, s.ev M y with
    | some (.one (.c (.s (.bool a)))), some (.one (.c (.s (.bool b)))) => match op, M.ti t with
      | .eql, .bool => ok (.one (.c (.s (.bool (a == b)))))
      | .neq, .bool => ok (.one (.c (.s (.bool (!(a == b))))))
      | _, _ => none
    | some (.one (.c (.s a))), some (.one (.c (.s b))) => match sbin op a b with
      | some (ob, v) => some ⟨ob, .one (.c (.s v)), [], []⟩
      | none => none
    | some (.one (.agg cs)), some (.one (.agg ds)) => effEq M op t cs ds
    | _, _ => none
  | .unOp op _ x => match op, s.ev M x with
    | .not, some (.one (.c (.s (.bool b)))) => ok (.one (.c (.s (.bool (!b)))))
    | .neg, some (.one (.c (.s (.int k n)))) => ok (.one (.c (.s (.int k (k.wrap (0 - n))))))
    | _, _ => none
  | .convert src dst x => match M.ti src, M.ti dst, s.ev M x with
    | .int _, .int k, some (.one (.c (.s (.int _ n)))) => ok (.one (.c (.s (.int k (k.wrap n)))))
    | _, _, _ => none
  | .slice t x lo hi mx => match s.ev M x, bndO s M lo, bndO s M hi, bndO s M mx with
    | some v, some l, some h, some m => effSlice s (M.ti t) v l h m
    | _, _, _, _ => none
  | .fieldAddr t x f => match s.ev M x, M.ti t with
    | some (.one (.c p)), .st fs _ => match fs[f]? with
      | some d => match s.move d.1 p with
        | some q => ok (.one (.c q))
        | none => none
      | none => none
    | _, _ => none
  | .field t x f => match s.ev M x, M.ti t with
    | some (.one (.agg cs)), .st fs n => match fs[f]? with
      | some d => if cs.length = n ∧ d.1 + d.2.1 ≤ n then okR (mkAV d.2.2 ((cs.drop d.1).take d.2.1)) else none
      | none => none
    | _, _ => none
  | .indexAddr t x i => match s.ev M x, s.ev M i, M.ti t with
    | some (.one (.c (.sl τ xs _))), some (.one (.c (.s (.int _ n)))), .sl _ τ₀ _ => if U.sz τ₀ = U.sz τ then some ⟨[0 ≤ n ∧ n < (xs.length : Int)], .one (.c (.el τ xs n.toNat 0)), [], []⟩ else none
    | some (.one (.c (.ob k v))), some (.one (.c (.s (.int _ n)))), .sl _ τ₀ _ => match s.obAt k v with
      | some o => if U.sz τ₀ = U.sz o.τ then some ⟨[0 ≤ n ∧ n < (o.xs.length : Int)], .one (.c (.em k v n.toNat 0)), [], []⟩ else none
      | none => none
    | some (.one (.c (.bx k off))), some (.one (.c (.s (.int _ n)))), .ar len esz _ => if 0 ≤ n ∧ n < (len : Int) then ok (.one (.c (.bx k (off + n.toNat * esz)))) else none
    | some (.one (.c (.el τ xs j off))), some (.one (.c (.s (.int _ n)))), .ar len esz _ => if 0 ≤ n ∧ n < (len : Int) then ok (.one (.c (.el τ xs j (off + n.toNat * esz)))) else none
    | _, _, _ => none
  | .index t x i => match s.ev M x, s.ev M i, M.ti t with
    | some (.one (.c (.s (.string b)))), some (.one (.c (.s (.int _ n)))), .str => some ⟨[0 ≤ n ∧ n < (b.size : Int)], .one (.c (.s (.int .u8 ((b.toList.getD n.toNat 0).toNat : Nat)))), [], []⟩
    | _, _, _ => none
  | .extract t j => match s.ev M t with
    | some (.tup al) => match al[j]? with
      | some a => ok (.one a)
      | none => none
    | _ => none
  | .makeSlice t len cap => match s.ev M len, s.ev M cap, o.dst with
    | some l, some c, some d => effMake M s d t l c
    | _, _, _ => none
  | .makeFunc (.func f) first captured => match first.toList with
    | [] => effFunc M s f captured.toList
    | _ => none
  | .call c => effCall M s o c
  | _ => none
def S.upd (s : S U) (dst : Option Nat) (r : Res U) : S U :=
  { s with tm := (match dst with | some d => s.tm.set d r.v | none => s.tm), bx := sets s.bx r.bw, ob := sets s.ob r.ow }
def undefR : Res U := ⟨[], .undef, [], []⟩
def opSlots (o : Op) : List Nat := o.operands.toList.filterMap fun | .tmp t => some t | _ => none
def guardSlot (ops : List Oper) (o : Oper) : List Nat :=
  match o.guard with
  | none => []
  | some (j, _) => match (ops[j]?).bind (·.dst) with | some d => [d] | none => []
def S.obsX (s : S U) : Operand → List Nat
  | .tmp t => match s.tm[t]? with | some v => v.obs | none => []
  | _ => []
def S.obsXs (s : S U) : List Operand → List Nat
  | [] => []
  | x :: r => s.obsX x ++ s.obsXs r
def S.bxX (s : S U) : Operand → List Nat
  | .tmp t => match s.tm[t]? with | some (.one (.c (.bx k _))) => [k] | some (.one (.c (.fc _ ks))) => ks | _ => []
  | _ => []
def S.bxXs (s : S U) : List Operand → List Nat
  | [] => []
  | x :: r => s.bxX x ++ s.bxXs r
def S.capX (s : S U) (c : Call) : List Nat :=
  match c.callee with
  | .value (.tmp t) => match s.tm[t]? with | some (.one (.c (.fc _ ks))) => ks | _ => []
  | _ => []
def S.boxObs (s : S U) : List Nat → List Nat
  | [] => []
  | k :: r => (match s.bx[k]? with | some (some (_, cells)) => Cs.obs cells | _ => []) ++ s.boxObs r
structure Fp where
  rs : List Nat
  rb : List Nat
  ro : List Nat
  ws : List Nat
  wb : List Nat
  wo : List Nat
def S.readB (s : S U) (o : Oper) : List Nat :=
  match o.op with
  | .alloc _ | .box _ _ => match o.dst with | some d => [s.key d] | none => []
  | .load _ a | .store _ a _ => s.bxX a
  | .makeFunc _ _ captured => s.bxXs captured.toList
  | .call c => s.bxXs c.args.toList ++ s.capX c
  | _ => []
def Mc.zobs (M : Mc U) (t : TypeId) : List Nat :=
  match M.ti t with
  | .sl e _ _ => match M.zero e with | some z => Cs.obs z | none => []
  | _ => []
def S.readO (M : Mc U) (s : S U) (o : Oper) : List Nat :=
  match o.op with
  | .load _ a => s.obsX a
  | .store _ a x => s.obsX a ++ (match s.obsX a, meets (s.obsX x) (s.boxObs (s.bxX a)) with | [], false => [] | _, _ => s.obsX x)
  | .buildSlice t _ ps => (match o.dst with | some d => [s.okey d] | none => []) ++ s.obsXs (ps.toList.map (·.2)) ++ M.zobs t
  | .makeSlice t _ _ => (match o.dst with | some d => [s.okey d] | none => []) ++ M.zobs t
  | .slice _ x _ _ _ => s.obsX x
  | .indexAddr _ x _ => s.obsX x
  | .nilCheck x => s.obsX x
  | .fieldAddr _ x _ => s.obsX x
  | .makeFunc _ _ captured => s.boxObs (s.bxXs captured.toList)
  | .call c => (match o.dst with | some d => [s.okey d, s.okey d + 1, s.okey d + 2, s.okey d + 3] | none => []) ++ s.obsXs c.args.toList ++ s.boxObs (s.bxXs c.args.toList ++ s.capX c)
  | _ => []
def S.fp (M : Mc U) (s : S U) (ops : List Oper) (o : Oper) (r : Res U) : Fp :=
  ⟨opSlots o.op ++ guardSlot ops o, s.readB o, s.readO M o, o.dst.toList, r.bw.map (·.1), r.ow.map (·.1)⟩
def S.fp0 (ops : List Oper) (o : Oper) : Fp := ⟨guardSlot ops o, [], [], o.dst.toList, [], []⟩
def Fp.clash (a b : Fp) : Bool :=
  meets a.ws b.rs || meets a.ws b.ws || meets a.wb b.rb || meets a.wb b.wb || meets a.wo b.ro || meets a.wo b.wo ||
  meets a.rs b.ws || meets a.rb b.wb || meets a.ro b.wo
def apartFrom (bs : List Nat) (j : Nat) (fj : Fp) : Nat → List Fp → Bool
  | _, [] => true
  | i, f :: fs => (!(f.clash fj) || Nat.testBit (bs.getD j 0) i) && apartFrom bs j fj (i + 1) fs
def apartAll (bs : List Nat) : Nat → List Fp → List Fp → Bool
  | _, _, [] => true
  | j, done, f :: fs => apartFrom bs j f 0 done && apartAll bs (j + 1) (done ++ [f]) fs
def cnd (b : Bool) (X Y : Prop) : Prop := match b with | true => X | false => Y
def obs : List Prop → Prop → Prop
  | [], K => K
  | p :: ps, K => p ∧ obs ps K
def wantK (ops : List Oper) (s : S U) (o : Oper) : Option Bool :=
  match o.guard with
  | none => some true
  | some (j, want) => match (ops[j]?).bind (·.dst) with
    | none => none
    | some d => match s.tm[d]? with
      | some (.one (.c (.s (.bool x)))) => some (x == want)
      | some .undef => some false
      | _ => none
def isGuard (ops : List Oper) (i : Nat) : Bool := ops.any fun o => match o.guard with | some (j, _) => j == i | none => false
def execK (ops : List Oper) (i : Nat) (o : Oper) (s : S U) (r : Res U) (K : S U → Prop) : Prop :=
  obs r.ob (match isGuard ops i, r.v with
    | true, .one (.c (.s (.bool x))) => cnd x (K (s.upd o.dst { r with v := .one (.c (.s (.bool true))) })) (K (s.upd o.dst { r with v := .one (.c (.s (.bool false))) }))
    | _, _ => K (s.upd o.dst r))
def awpOps (M : Mc U) (ops : List Oper) : List Oper → Nat → S U → List Fp → (S U → List Fp → Prop) → Prop
  | [], _, s, fs, K => K s fs
  | o :: rest, i, s, fs, K =>
    match wantK ops s o with
    | some true => match eff M s o with
      | some r => execK ops i o s r fun s' => awpOps M ops rest (i + 1) s' (s.fp M ops o r :: fs) K
      | none => False
    | some false => awpOps M ops rest (i + 1) (s.upd o.dst undefR) (S.fp0 ops o :: fs) K
    | none => False
def bitsOf (done : List Nat) : List Edge → Nat
  | [] => 0
  | e :: r => if Region.binds .any e then bitsOf done r ||| 2 ^ e.on ||| done.getD e.on 0 else bitsOf done r
def befores : List Oper → List Nat → List Nat
  | [], done => done
  | o :: r, done => befores r (done ++ [bitsOf done o.after.toList])
def edgesOK : Nat → List Oper → Bool
  | _, [] => true
  | i, o :: r => o.after.toList.all (fun e => !Region.binds .any e || Nat.blt e.on i) && edgesOK (i + 1) r
def iff' (b : Bool) (X : Prop) : Prop := match b with | true => X | false => False
def awpReg (M : Mc U) (ops : Array Oper) (drawn : Bool) (s : S U) (K : S U → Prop) : Prop :=
  awpOps M ops.toList ops.toList 0 s [] fun s' fs => match drawn with
    | false => K s'
    | true => iff' (edgesOK 0 ops.toList && apartAll (befores ops.toList []) 0 [] fs.reverse) (K s')
inductive Pos
  | sl (d : Nat)
  | cell (k i : Nat)
structure NS where
  ts : List Bool
  bs : List Bool
  nm : List (Pos × Nat)
  gb : List Nat := []
  gs : List Nat := []
def S.refAt (s : S U) : Pos → Option (C U)
  | .sl d => match s.tm[d]? with | some (.one (.c x)) => some x | _ => none
  | .cell k i => match s.bx[k]? with | some (some (_, cells)) => cells[i]? | _ => none
def S.setRef (s : S U) (c : C U) : Pos → S U
  | .sl d => { s with tm := s.tm.set d (.one (.c c)) }
  | .cell k i => match s.bx[k]? with | some (some (fz, cells)) => { s with bx := s.bx.set k (some (fz, cells.set i c)) } | _ => s
def S.objNil (s : S U) (p : Pos) (q : Nat) : Option (S U) :=
  match s.refAt p with
  | some (.sl τ [] true) => match s.nver q with
    | some ver => some ({ s with ob := s.ob.set q (some ⟨ver, τ, [], some 0, true⟩) }.setRef (.ob q ver) p)
    | none => none
  | some (.ob _ _) => some s
  | _ => none
def S.objNils : List (Pos × Nat) → S U → Option (S U)
  | [], s => some s
  | (p, q) :: r, s => match s.objNil p q with | some s1 => s1.objNils r | none => none
def S.names (s : S U) : List (Pos × Nat) → Option (List (Nat × Nat))
  | [] => some []
  | (p, q) :: r => match s.refAt p, s.names r with
    | some (.ob k v), some l => match s.obAt k v with | some _ => some ((k, q) :: l) | none => none
    | _, _ => none
def C.ren (s : S U) (mp : List (Nat × Nat)) (bs : List Bool) : C U → C U
  | .ob k v => match look k mp, s.obAt k v with
    | some q, some _ => .ob q 0
    | _, _ => .top
  | .em k v i off => match look k mp, s.obAt k v with
    | some q, some _ => .em q 0 i off
    | _, _ => .top
  | .bx k off => match bs[k]? with | some true => .bx k off | _ => .top
  | .fc f caps => match caps.all (fun k => bs.getD k false) with | true => .fc f caps | false => .top
  | c => c
def A.ren (s : S U) (mp : List (Nat × Nat)) (bs : List Bool) : A U → A U
  | .c x => .c (x.ren s mp bs)
  | .agg cs => .agg (cs.map (C.ren s mp bs))
  | .top => .top
def AV.ren (s : S U) (mp : List (Nat × Nat)) (bs : List Bool) : AV U → AV U
  | .one a => .one (a.ren s mp bs)
  | .tup al => .tup (al.map (A.ren s mp bs))
  | .undef => .undef
def keepL {α : Type} (z : α) : List Bool → List α → List α
  | _, [] => []
  | [], _ :: xs => z :: keepL z [] xs
  | b :: bs, x :: xs => (match b with | true => x | false => z) :: keepL z bs xs
def S.moved (s : S U) : List (Nat × Nat) → List (Nat × Option (Ob U))
  | [] => []
  | (k, q) :: r => (q, match s.ob[k]? with | some (some o) => some { o with ver := 0 } | _ => none) :: s.moved r
def S.ren (s : S U) (mp : List (Nat × Nat)) (ts bs : List Bool) : S U :=
  { tm := (keepL (.one .top) ts s.tm).map (AV.ren s mp bs), bx := (keepL none bs s.bx).map (Option.map fun x => (x.1, x.2.map (C.ren s mp bs))), ob := sets (List.replicate s.ob.length none) (s.moved mp), base := s.base }
def C.weak : C U → C U
  | .sl τ xs _ => .sl τ xs false
  | c => c
def AV.weak : AV U → AV U
  | .one (.c x) => .one (.c x.weak)
  | v => v
def S.weakB : List Nat → S U → S U
  | [], s => s
  | k :: r, s => S.weakB r { s with bx := s.bx.modify k (Option.map fun x => (x.1, x.2.map C.weak)) }
def S.weakS : List Nat → S U → S U
  | [], s => s
  | d :: r, s => S.weakS r { s with tm := s.tm.modify d AV.weak }
def S.frzB : List Nat → S U → S U
  | [], s => s
  | k :: r, s => match s.bx[k]? with
    | some (some (fz, cells)) => match s.toVs cells with
      | some vs => S.frzB r { s with bx := s.bx.set k (some (fz, vs.map C.ofV)), ob := sets s.ob (s.frz (Cs.obs cells)) }
      | none => S.frzB r s
    | _ => S.frzB r s
def S.norm (n : NS) (s : S U) : Option (S U) :=
  match (s.frzB n.gb).objNils n.nm with
  | some s1 => match s1.names n.nm with
    | some mp => match unlike (mp.map (·.1)) && unlike (mp.map (·.2)) && mp.all (fun x => Nat.blt x.2 s1.ob.length) with
      | true => some (S.weakS n.gs (S.weakB n.gb (s1.ren mp n.ts n.bs)))
      | false => none
    | none => none
  | none => none
def lid : Code → Nat
  | .region id _ _ => id
  | .seq a _ => lid a
  | .block _ c => lid c
  | .loop c => lid c
  | .scope c => lid c
  | _ => 0
def thenK (next : S U → Prop) (Q : Exit → S U → Prop) : Exit → S U → Prop
  | .normal, s => next s
  | e, s => Q e s
def blockK (id : Nat) (Q : Exit → S U → Prop) : Exit → S U → Prop
  | .exit id', s => if id' = id then Q .normal s else Q (.exit id') s
  | e, s => Q e s
def normK (n : NS) (K : S U → Prop) (s : S U) : Prop := match s.norm n with | some s1 => K s1 | none => False
def roundK (n : NS) (I : S U → Prop) (Q : Exit → S U → Prop) : Exit → S U → Prop
  | .normal, s => normK n I s
  | e, s => normK n (Q e) s
def iterK (n : NS) (body : S U → (Exit → S U → Prop) → Prop) (Q : Exit → S U → Prop) : Nat → S U → Prop
  | 0, _ => False
  | k + 1, s => body s (roundK n (iterK n body Q k) Q)
def itersK (n : NS) (body : S U → (Exit → S U → Prop) → Prop) (Q : Exit → S U → Prop) (s : S U) : Prop := ∃ k, iterK n body Q k s
def loopK (n : NS) (body : S U → (Exit → S U → Prop) → Prop) (s : S U) (Q : Exit → S U → Prop) : Prop := normK n (itersK n body Q) s
def awp (M : Mc U) (N : Nat → NS) : Code → S U → (Exit → S U → Prop) → Prop
  | .skip, s, Q => Q .normal s
  | .region _ ops drawn, s, Q => awpReg M ops drawn s (Q .normal)
  | .seq a b, s, Q => awp M N a s (thenK (fun s' => awp M N b s' Q) Q)
  | .cond c a b, s, Q => match s.ev M c with
    | some (.one (.c (.s (.bool x)))) => cnd x (awp M N a s Q) (awp M N b s Q)
    | _ => False
  | .block id c, s, Q => awp M N c s (blockK id Q)
  | .loop c, s, Q => loopK (N (lid c)) (awp M N c) s Q
  | .exit id, s, Q => Q (.exit id) s
  | .ret, s, Q => Q .ret s
  | _, _, _ => False
def sub : Code → List Nat → Code
  | c, [] => c
  | .seq a b, k :: p => match k with | 0 => sub a p | _ => sub b p
  | .block _ c, _ :: p => sub c p
  | .loop c, _ :: p => sub c p
  | .cond _ a b, k :: p => match k with | 3 => sub a p | _ => sub b p
  | _, _ => .skip
def ctxK (M : Mc U) (N : Nat → NS) : Code → List Nat → (Exit → S U → Prop) → Exit → S U → Prop
  | .seq a b, k :: p, Q => match k with | 0 => ctxK M N a p (thenK (fun s' => awp M N b s' Q) Q) | _ => ctxK M N b p Q
  | .block id c, _ :: p, Q => ctxK M N c p (blockK id Q)
  | .cond _ a b, k :: p, Q => match k with | 3 => ctxK M N a p Q | _ => ctxK M N b p Q
  | _, _, Q => Q
def st (n b o base : Nat) (ts : List (Nat × AV U)) (bs : List (Nat × Option (Bool × List (C U)))) (os : List (Nat × Option (Ob U))) : S U :=
  ⟨sets (List.replicate n (.one .top)) ts, sets (List.replicate b none) bs, sets (List.replicate o none) os, base⟩
def bodyOf (f : Func) : Code := f.body.getD .skip
inductive Kind
  | d | o | m
def S.outD (s : S U) : C U → Option (C U)
  | .s x => some (.s x)
  | .fv φ => some (.fv φ)
  | c => match s.lst c with | some ⟨τ, xs⟩ => some (.sl τ xs false) | none => some .top
def S.outDs (s : S U) : List (C U) → Option (List (C U))
  | [] => some []
  | c :: cs => match s.outD c, s.outDs cs with
    | some x, some xs => some (x :: xs)
    | _, _ => none
def S.outA (s : S U) (k : Kind) (j : Nat) (x : A U) : Option (A U × List (Option Nat × Ob U)) :=
  match k, x with
  | .d, .c x => match s.outD x with | some y => some (.c y, []) | none => none
  | .d, .agg cs => match s.outDs cs with | some ys => some (.agg ys, []) | none => none
  | .o, .c (.sl τ [] true) => some (.c (.ob j 0), [(none, ⟨0, τ, [], none, true⟩)])
  | .o, .c (.ob k v) => match s.obAt k v with
    | some o => match o.live with | true => some (.c (.ob j 0), [(some k, ⟨0, o.τ, o.xs, none, true⟩)]) | false => none
    | none => none
  | .m, .c (.sl τ [] true) => some (.c (.ob j 0), [(none, ⟨0, τ, [], some 0, true⟩)])
  | .m, .c (.ob k v) => match s.obAt k v with
    | some o => match o.live, o.fr with | true, some 0 => some (.c (.ob j 0), [(some k, ⟨0, o.τ, o.xs, some 0, true⟩)]) | _, _ => none
    | none => none
  | _, _ => none
def S.outs (s : S U) : List Kind → Nat → List (A U) → Option (List (A U) × List (Option Nat × Ob U))
  | _, _, [] => some ([], [])
  | ks, j, x :: al => match s.outA (ks.headD .d) j x with
    | some (r, e) => match s.outs ks.tail (j + e.length) al with
      | some (rs, es) => some (r :: rs, e ++ es)
      | none => none
    | none => none
def srcs : List (Option Nat × Ob U) → List Nat
  | [] => []
  | (some k, _) :: r => k :: srcs r
  | (none, _) :: r => srcs r
def outKeys : List Kind → List (A U) → List Nat
  | _, [] => []
  | ks, x :: al => (match ks.headD .d with | .m => [] | _ => x.obs) ++ outKeys ks.tail al
def outOwn : List Kind → List (A U) → List Nat
  | _, [] => []
  | ks, x :: al => (match ks.headD .d with | .m => x.obs | _ => []) ++ outOwn ks.tail al
def S.out (s : S U) (fm : List Kind) (al : List (A U)) : Option (List (A U) × List (Ob U)) :=
  match s.outs fm 0 al with
  | some (rs, es) => match unlike (srcs es) && !meets (outOwn fm al) (outKeys fm al) with
    | true => some (rs, es.map (·.2))
    | false => none
  | none => none
def S.res (M : Mc U) (s : S U) : ResultVar → Option (A U)
  | .tmp t => match s.tm[t]? with | some (.one a) => some a | _ => none
  | .cell t ty => match s.tm[t]? with
    | some (.one (.c p)) => match (M.ti ty).shape with
      | some (agg, n) => match s.at M p n with
        | some cs => match mkAV agg cs with | some (.one a) => some a | _ => none
        | none => none
      | none => none
    | _ => none
def S.ress (M : Mc U) (s : S U) : List ResultVar → Option (List (A U))
  | [] => some []
  | r :: rs => match s.res M r, s.ress M rs with
    | some a, some al => some (a :: al)
    | _, _ => none
def retK (M : Mc U) (rv : List ResultVar) (fm : List Kind) (K : List (A U) → List (Ob U) → Prop) (s : S U) : Prop :=
  match s.ress M rv with
  | some al => match s.out fm al with
    | some (rs, os) => K rs os
    | none => False
  | none => False
def retQ (M : Mc U) (rv : List ResultVar) (fm : List Kind) (K : List (A U) → List (Ob U) → Prop) : Exit → S U → Prop
  | .ret, s => retK M rv fm K s
  | .normal, s => retK M rv fm K s
  | _, _ => False
def unC : List (A U) → Option (List (C U))
  | [] => some []
  | .c x :: l => match unC l with | some r => some (x :: r) | none => none
  | _ => none
def splitB : List (Bool × List (C U)) → List (A U) → Option (List (Bool × List (C U)) × List (A U))
  | [], l => some ([], l)
  | b :: bs, l => match unC (l.take b.2.length), splitB bs (l.drop b.2.length) with
    | some cs, some (bs', r) => some ((b.1, cs) :: bs', r)
    | _, _ => none
def boxAs : List (Bool × List (C U)) → List (A U)
  | [] => []
  | b :: bs => b.2.map .c ++ boxAs bs
def retGK (M : Mc U) (nb : Nat) (rv : List ResultVar) (fm : List Kind) (K : List (A U) → List (Bool × List (C U)) → List (Ob U) → Prop) (s : S U) : Prop :=
  match s.ress M rv, s.boxesAt (List.range nb) with
  | some al, some bs => match s.out fm (boxAs bs ++ al) with
    | some (rs, os) => match splitB bs rs with
      | some (bs', rs') => K rs' bs' os
      | none => False
    | none => False
  | _, _ => False
def retGQ (M : Mc U) (nb : Nat) (rv : List ResultVar) (fm : List Kind) (K : List (A U) → List (Bool × List (C U)) → List (Ob U) → Prop) : Exit → S U → Prop
  | .ret, s => retGK M nb rv fm K s
  | .normal, s => retGK M nb rv fm K s
  | _, _ => False
def entryG (n x : Nat) (args : List (A U)) (bs : List (Bool × List (C U))) (os : List (Ob U)) : S U :=
  ⟨args.map .one ++ List.replicate (n - args.length) (.one .top), bs.map some ++ List.replicate n none, os.map some ++ List.replicate (4 * (bs.length + n) + x - os.length) none, bs.length⟩
def DC.toC : DC U → C U
  | .v x => C.ofV x
  | .fn φ => .fv φ
def argA (k : Nat) : D U → AV U
  | .d x => .one x.toA
  | .fn φ => .one (.c (.fv φ))
  | .box _ => .one (.c (.bx k 0))
def argAs : Nat → List (D U) → List (AV U)
  | _, [] => []
  | k, d :: r => argA k d :: argAs (match d with | .box _ => k + 1 | _ => k) r
def argBx : List (D U) → List (Option (Bool × List (C U)))
  | [] => []
  | .box cs :: r => some (true, cs.map DC.toC) :: argBx r
  | _ :: r => argBx r
def entry (n x : Nat) (args : List (D U)) : S U :=
  ⟨argAs 0 args ++ List.replicate (n - args.length) (.one .top), argBx args ++ List.replicate n none, List.replicate (4 * ((argBx args).length + n) + x) none, (argBx args).length⟩
end Go.Proofs.YtmpnompddfhkeaaGreat.B
namespace Go.Proofs.YtmpnompddfhkeaaGreat.B
open Go Go.RowKit
variable {U : Uni} {P : Program}
inductive VRel (E : Enc U) (St : Nat → Nat → Prop) (w : World) : Value → V U → Prop
  | s (x : Value) (h : oneC x = true) : VRel E St w x (.s x)
  | nil (τ : U.Ty) (a : Option Addr) (cap : Nat) : VRel E St w (.slice a 0 cap) (.dat τ [])
  | dat (τ : U.Ty) (xs : List (U.Den τ)) (b o cap : Nat) (cv : Nat → Nat → Value) (hcap : xs.length ≤ cap ∧ xs.length ≤ 9223372036854775807)
      (h1 : ∀ i j, i < xs.length → j < U.sz τ → St b (o + i * U.sz τ + j) ∧ w.cell? ⟨b, o + i * U.sz τ + j, none⟩ = some (cv i j))
      (h2 : ∀ i (hi : i < xs.length) j d, (E.enc τ xs[i])[j]? = some d → VRel E St w (cv i j) d) :
      VRel E St w (.slice (some ⟨b, o, none⟩) xs.length cap) (.dat τ xs)
def Keeps (St : Nat → Nat → Prop) (w : World) (St' : Nat → Nat → Prop) (w' : World) : Prop :=
  ∀ b o, St b o → St' b o ∧ w'.cell? ⟨b, o, none⟩ = w.cell? ⟨b, o, none⟩
theorem Keeps.refl (St : Nat → Nat → Prop) (w : World) : Keeps St w St w := fun _ _ h => ⟨h, rfl⟩
theorem Keeps.trans {St St' St'' : Nat → Nat → Prop} {w w' w'' : World} (h : Keeps St w St' w') (k : Keeps St' w' St'' w'') : Keeps St w St'' w'' :=
  fun b o hs => ⟨(k b o (h b o hs).1).1, (k b o (h b o hs).1).2.trans (h b o hs).2⟩
theorem VRel.mono {E : Enc U} {St St' : Nat → Nat → Prop} {w w' : World} {v : Value} {d : V U} (h : VRel E St w v d)
    (hs : Keeps St w St' w') : VRel E St' w' v d := by
  induction h with
  | s x h => exact .s x h
  | nil τ a cap => exact .nil τ a cap
  | dat τ xs b o cap cv hcap h1 h2 ih =>
    refine .dat τ xs b o cap cv hcap (fun i j hi hj => ?_) ih
    obtain ⟨g1, g2⟩ := h1 i j hi hj
    obtain ⟨g3, g4⟩ := hs _ _ g1
    exact ⟨g3, by rw [g4]; exact g2⟩
theorem VRel.inv {E : Enc U} {St : Nat → Nat → Prop} {w : World} {v : Value} {τ : U.Ty} {xs : List (U.Den τ)} (h : VRel E St w v (.dat τ xs)) :
    (xs = [] ∧ ∃ a cap, v = .slice a 0 cap) ∨ ∃ (b o cap : Nat) (cv : Nat → Nat → Value), v = .slice (some ⟨b, o, none⟩) xs.length cap ∧ (xs.length ≤ cap ∧ xs.length ≤ 9223372036854775807) ∧
      (∀ i j, i < xs.length → j < U.sz τ → St b (o + i * U.sz τ + j) ∧ w.cell? ⟨b, o + i * U.sz τ + j, none⟩ = some (cv i j)) ∧
      (∀ i (hi : i < xs.length) j d, (E.enc τ xs[i])[j]? = some d → VRel E St w (cv i j) d) := by
  cases h with
  | nil _ a cap => exact .inl ⟨rfl, a, cap, rfl⟩
  | dat _ _ b o cap cv hcap h1 h2 => exact .inr ⟨b, o, cap, cv, rfl, hcap, h1, h2⟩
theorem VRel.one {E : Enc U} {St : Nat → Nat → Prop} {w : World} {v : Value} {d : V U} (h : VRel E St w v d) : oneC v = true := by
  cases h <;> first | rfl | assumption
def All2 {α β : Type} (R : α → β → Prop) : List α → List β → Prop
  | [], [] => True
  | a :: l, b :: r => R a b ∧ All2 R l r
  | _, _ => False
section
variable {α β : Type} {R R' : α → β → Prop}
theorem All2.length : ∀ {l : List α} {r : List β}, All2 R l r → l.length = r.length
  | [], [], _ => rfl
  | _ :: _, _ :: _, h => by simp [All2.length h.2]
theorem All2.imp (h : ∀ a b, R a b → R' a b) : ∀ {l : List α} {r : List β}, All2 R l r → All2 R' l r
  | [], [], _ => trivial
  | _ :: _, _ :: _, hh => ⟨h _ _ hh.1, All2.imp h hh.2⟩
theorem All2.append : ∀ {l l' : List α} {r r' : List β}, All2 R l r → All2 R l' r' → All2 R (l ++ l') (r ++ r')
  | [], _, [], _, _, h => h
  | _ :: _, _, _ :: _, _, h, h' => ⟨h.1, All2.append h.2 h'⟩
theorem All2.drop : ∀ (n : Nat) {l : List α} {r : List β}, All2 R l r → All2 R (l.drop n) (r.drop n)
  | 0, _, _, h => h
  | _ + 1, [], [], _ => trivial
  | n + 1, _ :: _, _ :: _, h => All2.drop n h.2
theorem All2.take : ∀ (n : Nat) {l : List α} {r : List β}, All2 R l r → All2 R (l.take n) (r.take n)
  | 0, l, r, _ => by simp [All2]
  | _ + 1, [], [], _ => trivial
  | n + 1, _ :: _, _ :: _, h => ⟨h.1, All2.take n h.2⟩
theorem All2.get : ∀ {l : List α} {r : List β} (i : Nat) {b : β}, All2 R l r → r[i]? = some b → ∃ a, l[i]? = some a ∧ R a b
  | a :: _, b :: _, 0, _, h, e => by simp at e; subst e; exact ⟨a, rfl, h.1⟩
  | _ :: _, _ :: _, i + 1, _, h, e => All2.get (l := _) i h.2 (by simpa using e)
  | [], [], _, _, _, e => by simp at e
theorem All2.get' : ∀ {l : List α} {r : List β} (i : Nat) {a : α}, All2 R l r → l[i]? = some a → ∃ b, r[i]? = some b ∧ R a b
  | _ :: _, b :: _, 0, _, h, e => by simp at e; subst e; exact ⟨b, rfl, h.1⟩
  | _ :: _, _ :: _, i + 1, _, h, e => All2.get' (r := _) i h.2 (by simpa using e)
  | [], [], _, _, _, e => by simp at e
theorem All2.set : ∀ {l : List α} {r : List β} (i : Nat) {a : α} {b : β}, All2 R l r → R a b → All2 R (l.set i a) (r.set i b)
  | [], [], _, _, _, _, _ => trivial
  | _ :: _, _ :: _, 0, _, _, h, hab => ⟨hab, h.2⟩
  | _ :: _, _ :: _, i + 1, _, _, h, hab => ⟨h.1, All2.set i h.2 hab⟩
theorem All2.map_right {γ : Type} {R' : α → γ → Prop} (f : β → γ) (h : ∀ a b, R a b → R' a (f b)) : ∀ {l : List α} {r : List β}, All2 R l r → All2 R' l (r.map f)
  | [], [], _ => trivial
  | _ :: _, _ :: _, hh => ⟨h _ _ hh.1, All2.map_right f h hh.2⟩
theorem All2.of_get : ∀ {l : List α} {r : List β}, l.length = r.length → (∀ (i : Nat) a b, l[i]? = some a → r[i]? = some b → R a b) → All2 R l r
  | [], [], _, _ => trivial
  | a :: l, b :: r, hl, h => ⟨h 0 a b rfl rfl, All2.of_get (by simpa using hl) (fun i x y hx hy => h (i + 1) x y (by simpa using hx) (by simpa using hy))⟩
end
def D0Rel (E : Enc U) (St : Nat → Nat → Prop) (w : World) (v : Value) : D0 U → Prop
  | .v x => VRel E St w v x
  | .agg xs => ∃ arr : Array Value, v = .agg arr ∧ All2 (VRel E St w) arr.toList xs
def RetRel {α : Type} (R : Value → α → Prop) (v : Value) : List α → Prop
  | [d] => R v d
  | ds => ∃ arr : Array Value, v = .tuple arr ∧ All2 R arr.toList ds
theorem RetRel.imp {α : Type} {R R' : Value → α → Prop} (hi : ∀ a b, R a b → R' a b) {v : Value} {ds : List α} (h : RetRel R v ds) : RetRel R' v ds := by
  match ds, h with
  | [], h => obtain ⟨arr, h1, h2⟩ := h; exact ⟨arr, h1, h2.imp hi⟩
  | [d], h => exact hi _ _ h
  | _ :: _ :: _, h => obtain ⟨arr, h1, h2⟩ := h; exact ⟨arr, h1, h2.imp hi⟩
theorem D0Rel.mono {E : Enc U} {St St' : Nat → Nat → Prop} {w w' : World} (hs : Keeps St w St' w') {v : Value} {d : D0 U} (h : D0Rel E St w v d) : D0Rel E St' w' v d := by
  cases d with
  | v x => exact VRel.mono h hs
  | agg xs => obtain ⟨arr, h1, h2⟩ := h; exact ⟨arr, h1, h2.imp fun _ _ h => h.mono hs⟩
def Ret0 (E : Enc U) (St : Nat → Nat → Prop) (w w' : World) (v : Value) (rs : List (D0 U)) : Prop :=
  Ext w w' ∧ ∃ St' : Nat → Nat → Prop, (∀ b o, b < w.heap.size → St' b o → St b o) ∧ (∀ b o, St' b o → b < w'.heap.size) ∧ RetRel (D0Rel E St' w') v rs
def Gives (P : Program) (E : Enc U) (f : FuncId) (caps : Array Value) (St : Nat → Nat → Prop) (w : World) (φ : FV U) : Prop :=
  ∀ (St' : Nat → Nat → Prop) (w' : World), Keeps St w St' w' → (∀ b o, St' b o → b < w'.heap.size) → ∀ (args : List (D0 U)) (ob : List Prop) (rs : List (D0 U)), φ args = some (ob, rs) → (∀ p ∈ ob, p) →
    ∀ vs : List Value, All2 (D0Rel E St' w') vs args → Calls P f (vs.toArray ++ caps) w' fun e w'' => ∃ v, e = .returned v ∧ Ret0 E St' w' w'' v rs
def HasBody (P : Program) (f : FuncId) : Prop := ∃ fn c, P.funcs[f]? = some fn ∧ fn.body = some c ∧ (fn.name == "runtime.NumGoroutine") = false
def FunRel (P : Program) (E : Enc U) (St : Nat → Nat → Prop) (w : World) (v : Value) (φ : FV U) : Prop :=
  ∃ (f : FuncId) (caps : Array Value), v = .func (.func f) #[] caps ∧ HasBody P f ∧ Gives P E f caps St w φ
theorem FunRel.mono {E : Enc U} {St St' : Nat → Nat → Prop} {w w' : World} (hs : Keeps St w St' w') {v : Value} {φ : FV U} (h : FunRel P E St w v φ) : FunRel P E St' w' v φ := by
  obtain ⟨f, caps, h1, h2, h3⟩ := h
  exact ⟨f, caps, h1, h2, fun St'' w'' hk => h3 St'' w'' (hs.trans hk)⟩
theorem FunRel.one {E : Enc U} {St : Nat → Nat → Prop} {w : World} {v : Value} {φ : FV U} (h : FunRel P E St w v φ) : oneC v = true := by
  obtain ⟨f, caps, rfl, _⟩ := h; rfl
inductive Own
  | st
  | box (k : Nat)
  | obj (k : Nat)
structure G where
  β : Nat → Nat
  lb : Nat → Prop
  ω : Nat → Nat → Option Own
  tk : Nat → Option Addr × Nat
def G.St (g : G) (b o : Nat) : Prop := g.ω b o = some .st
def capPtrs (g : G) (ks : List Nat) : Array Value := (ks.map fun k => Value.pointer (some ⟨g.β k, 0, none⟩)).toArray
def CRel (P : Program) (E : Enc U) (g : G) (ob : List (Option (Ob U))) (w : World) (v : Value) : C U → Prop
  | .s x => v = x ∧ oneC x = true
  | .sl τ xs f => VRel E g.St w v (.dat τ xs) ∧ (f = true → ∃ a n, v = .slice a n n)
  | .ob k ver => oneC v = true ∧ ∃ o, ob[k]? = some (some o) ∧ ver ≤ o.ver ∧ (ver = o.ver → v = .slice (g.tk k).1 o.xs.length (g.tk k).2)
  | .bx k off => g.lb k ∧ v = .pointer (some ⟨g.β k, off, none⟩)
  | .el τ xs i off => i < xs.length ∧ ∃ b o cap, v = .pointer (some ⟨b, o + i * U.sz τ + off, none⟩) ∧ VRel E g.St w (.slice (some ⟨b, o, none⟩) xs.length cap) (.dat τ xs)
  | .em k ver i off => oneC v = true ∧ ∃ o, ob[k]? = some (some o) ∧ ver ≤ o.ver ∧ (ver = o.ver → i < o.xs.length ∧ ∃ b o', (g.tk k).1 = some ⟨b, o', none⟩ ∧ v = .pointer (some ⟨b, o' + i * U.sz o.τ + off, none⟩))
  | .fv φ => FunRel P E g.St w v φ
  | .fc f caps => v = .func (.func f) #[] (capPtrs g caps) ∧ ∀ k ∈ caps, g.lb k
  | .top => oneC v = true
structure GLe (g : G) (ob : List (Option (Ob U))) (w : World) (g' : G) (ob' : List (Option (Ob U))) (w' : World) : Prop where
  st : Keeps g.St w g'.St w'
  lb : ∀ k, g.lb k → g'.lb k ∧ g'.β k = g.β k
  ob : ∀ k o, ob[k]? = some (some o) → ∃ o', ob'[k]? = some (some o') ∧ o.ver ≤ o'.ver ∧ (o.ver = o'.ver → o'.xs.length = o.xs.length ∧ U.sz o'.τ = U.sz o.τ ∧ g'.tk k = g.tk k)
theorem GLe.refl (g : G) (ob : List (Option (Ob U))) (w : World) : GLe g ob w g ob w :=
  ⟨Keeps.refl _ _, fun _ h => ⟨h, rfl⟩, fun _ o h => ⟨o, h, Nat.le_refl _, fun _ => ⟨rfl, rfl, rfl⟩⟩⟩
theorem GLe.trans {g g' g'' : G} {ob ob' ob'' : List (Option (Ob U))} {w w' w'' : World} (h : GLe g ob w g' ob' w') (k : GLe g' ob' w' g'' ob'' w'') : GLe g ob w g'' ob'' w'' := by
  refine ⟨h.st.trans k.st, fun b hs => ⟨(k.lb b (h.lb b hs).1).1, (k.lb b (h.lb b hs).1).2.trans (h.lb b hs).2⟩, fun q o hq => ?_⟩
  obtain ⟨o', h1, h2, h3⟩ := h.ob q o hq
  obtain ⟨o'', k1, k2, k3⟩ := k.ob q o' h1
  refine ⟨o'', k1, Nat.le_trans h2 k2, fun e => ?_⟩
  have e1 : o.ver = o'.ver := by omega
  have e2 : o'.ver = o''.ver := by omega
  obtain ⟨a1, a2, a3⟩ := h3 e1
  obtain ⟨b1, b2, b3⟩ := k3 e2
  exact ⟨b1.trans a1, b2.trans a2, b3.trans a3⟩
theorem CRel.one {E : Enc U} {g : G} {ob : List (Option (Ob U))} {w : World} {v : Value} {c : C U} (hc : CRel P E g ob w v c) : oneC v = true := by
  cases c with
  | s x => rw [hc.1]; exact hc.2
  | sl τ xs t => exact hc.1.one
  | ob k ver => exact hc.1
  | bx k off => rw [hc.2]; rfl
  | el τ xs i off => obtain ⟨_, b, o, cap, h2, _⟩ := hc; rw [h2]; rfl
  | em k ver i off => exact hc.1
  | fv φ => exact FunRel.one hc
  | fc f caps => rw [hc.1]; rfl
  | top => exact hc
theorem CRel.mono {E : Enc U} {g g' : G} {ob ob' : List (Option (Ob U))} {w w' : World} (h : GLe g ob w g' ob' w') {v : Value} {c : C U} (hc : CRel P E g ob w v c) : CRel P E g' ob' w' v c := by
  cases c with
  | s x => exact hc
  | sl τ xs t => exact ⟨hc.1.mono h.st, hc.2⟩
  | ob k ver =>
    obtain ⟨h1, o, h2, h3, h4⟩ := hc
    obtain ⟨o', k1, k2, k3⟩ := h.ob k o h2
    refine ⟨h1, o', k1, Nat.le_trans h3 k2, fun e => ?_⟩
    obtain ⟨a1, _, a3⟩ := k3 (by omega)
    rw [a1, a3]; exact h4 (by omega)
  | bx k off => exact ⟨(h.lb k hc.1).1, by rw [(h.lb k hc.1).2]; exact hc.2⟩
  | el τ xs i off =>
    obtain ⟨h1, b, o, cap, h2, h3⟩ := hc
    exact ⟨h1, b, o, cap, h2, h3.mono h.st⟩
  | em k ver i off =>
    obtain ⟨h1, o, h2, h3, h4⟩ := hc
    obtain ⟨o', k1, k2, k3⟩ := h.ob k o h2
    refine ⟨h1, o', k1, Nat.le_trans h3 k2, fun e => ?_⟩
    obtain ⟨a1, a2, a3⟩ := k3 (by omega)
    obtain ⟨c1, b, o'', c2, c3⟩ := h4 (by omega)
    exact ⟨by rw [a1]; exact c1, b, o'', by rw [a3]; exact c2, by rw [a2]; exact c3⟩
  | fv φ => exact FunRel.mono h.st hc
  | fc f caps =>
    refine ⟨?_, fun k hk => (h.lb k (hc.2 k hk)).1⟩
    rw [hc.1]
    unfold capPtrs
    congr 2
    refine List.map_congr_left fun k hk => ?_
    rw [(h.lb k (hc.2 k hk)).2]
  | top => exact hc
def ARel (P : Program) (E : Enc U) (g : G) (ob : List (Option (Ob U))) (w : World) (v : Value) : A U → Prop
  | .c x => CRel P E g ob w v x
  | .agg cs => ∃ arr : Array Value, v = .agg arr ∧ All2 (CRel P E g ob w) arr.toList cs
  | .top => True
def AVRel (P : Program) (E : Enc U) (g : G) (ob : List (Option (Ob U))) (w : World) (v : Value) : AV U → Prop
  | .one a => ARel P E g ob w v a
  | .tup al => ∃ arr : Array Value, v = .tuple arr ∧ All2 (ARel P E g ob w) arr.toList al
  | .undef => v = undef
theorem ARel.mono {E : Enc U} {g g' : G} {ob ob' : List (Option (Ob U))} {w w' : World} (h : GLe g ob w g' ob' w') {v : Value} {a : A U} (ha : ARel P E g ob w v a) : ARel P E g' ob' w' v a := by
  cases a with
  | c x => exact CRel.mono h ha
  | agg cs => obtain ⟨arr, h1, h2⟩ := ha; exact ⟨arr, h1, h2.imp fun _ _ => CRel.mono h⟩
  | top => trivial
theorem AVRel.mono {E : Enc U} {g g' : G} {ob ob' : List (Option (Ob U))} {w w' : World} (h : GLe g ob w g' ob' w') {v : Value} {a : AV U} (ha : AVRel P E g ob w v a) : AVRel P E g' ob' w' v a := by
  cases a with
  | one a => exact ARel.mono h ha
  | tup al => obtain ⟨arr, h1, h2⟩ := ha; exact ⟨arr, h1, h2.imp fun _ _ => ARel.mono h⟩
  | undef => exact ha
theorem retAV_rel {E : Enc U} {g : G} {ob : List (Option (Ob U))} {w : World} {v : Value} {rs : List (A U)} : AVRel P E g ob w v (retAV rs) ↔ RetRel (ARel P E g ob w) v rs := by
  match rs with
  | [] => exact Iff.rfl
  | [_] => exact Iff.rfl
  | _ :: _ :: _ => exact Iff.rfl
def BoxRel (P : Program) (E : Enc U) (g : G) (ob : List (Option (Ob U))) (w : World) (k : Nat) (fz : Bool) (cells : List (C U)) : Prop :=
  ∃ vs : List Value, All2 (CRel P E g ob w) vs cells ∧ ∀ (i : Nat) v, vs[i]? = some v → w.cell? ⟨g.β k, i, none⟩ = some v ∧
    (fz = false → stuck w ⟨g.β k, i, none⟩ = false ∧ g.ω (g.β k) i = some (.box k)) ∧ (fz = true → g.St (g.β k) i)
def Mode (g : G) (w : World) (k : Nat) (fr : Option Nat) (i b o : Nat) : Prop :=
  match fr with
  | none => g.St b o
  | some f => (i < f → g.St b o) ∧ (f ≤ i → g.ω b o = some (.obj k) ∧ stuck w ⟨b, o, none⟩ = false)
structure ObAt (E : Enc U) (g : G) (w : World) (k : Nat) (o : Ob U) (b off cap : Nat) (cv : Nat → Nat → Value) : Prop where
  cell : ∀ i j, i < o.xs.length → j < U.sz o.τ → w.cell? ⟨b, off + i * U.sz o.τ + j, none⟩ = some (cv i j) ∧ Mode g w k o.fr i b (off + i * U.sz o.τ + j)
  rel : ∀ i (hi : i < o.xs.length) j d, (E.enc o.τ o.xs[i])[j]? = some d → VRel E g.St w (cv i j) d
  spare : o.live = true → ∀ x, o.xs.length * U.sz o.τ ≤ x → x < cap * U.sz o.τ → g.ω b (off + x) = some (.obj k) ∧ (∃ v, w.cell? ⟨b, off + x, none⟩ = some v) ∧ stuck w ⟨b, off + x, none⟩ = false
def ObRel (E : Enc U) (g : G) (w : World) (k : Nat) (o : Ob U) : Prop :=
  ((o.xs.length ≤ (g.tk k).2 ∧ o.xs.length ≤ 9223372036854775807) ∧ ∀ f, o.fr = some f → f ≤ o.xs.length) ∧ (0 < (g.tk k).2 → ∃ b off cv, (g.tk k).1 = some ⟨b, off, none⟩ ∧ ObAt E g w k o b off (g.tk k).2 cv)
structure Fr where
  w0 : World
  own : Nat → Nat → Prop
  st : Nat → Nat → Prop
  nb : Nat
  β : Nat → Nat
structure FExt (fr : Fr) (w : World) : Prop where
  os : w.os = fr.w0.os
  tape : w.tape = fr.w0.tape
  output : w.output = fr.w0.output
  size : fr.w0.heap.size ≤ w.heap.size
  block : ∀ k, k < fr.w0.heap.size → (∀ o, ¬ fr.own k o) → w.heap[k]? = fr.w0.heap[k]?
  cell : ∀ b o, b < fr.w0.heap.size → ¬ fr.own b o → w.cell? ⟨b, o, none⟩ = fr.w0.cell? ⟨b, o, none⟩
  frozen : ∀ b o, b < fr.w0.heap.size → ¬ fr.own b o → stuck w ⟨b, o, none⟩ = stuck fr.w0 ⟨b, o, none⟩
structure Sim (P : Program) (E : Enc U) (fr : Fr) (g : G) (s : S U) (a : Act) (w : World) : Prop where
  ext : FExt fr w
  tms : All2 (AVRel P E g s.ob w) a.tmps.toList s.tm
  bxs : ∀ k fz cells, s.bx[k]? = some (some (fz, cells)) → g.lb k ∧ BoxRel P E g s.ob w k fz cells
  lbs : ∀ k, g.lb k → ∃ c, s.bx[k]? = some (some c)
  obs : ∀ k o, s.ob[k]? = some (some o) → ObRel E g w k o
  own : ∀ b o x, g.ω b o = some x → b < w.heap.size ∧ (fr.w0.heap.size ≤ b ∨ fr.own b o ∨ (x = .st ∧ fr.st b o))
  dfr : a.defers = []
  fix : ∀ k, k < fr.nb → g.lb k → g.β k = fr.β k
  bas : fr.nb ≤ s.base
theorem Sim.wr {E : Enc U} {fr : Fr} {g : G} {s : S U} {a : Act} {w : World} (h : Sim P E fr g s a w) {b o : Nat} {x : Own} (hx : g.ω b o = some x) (hne : x ≠ .st) : fr.w0.heap.size ≤ b ∨ fr.own b o := by
  rcases (h.own b o x hx).2 with h1 | h1 | ⟨h1, _⟩
  · exact .inl h1
  · exact .inr h1
  · exact (hne h1).elim
end Go.Proofs.YtmpnompddfhkeaaGreat.B
namespace Go.Proofs.YtmpnompddfhkeaaGreat.B
open Go Go.RowKit
variable {P : Program}
theorem add_none (b o i : Nat) : (⟨b, o, none⟩ : Addr).add i = ⟨b, o + i, none⟩ := by
  unfold Addr.add; split
  · rename_i h; subst h; rfl
  · rfl
theorem run_loadCellsFrom (w : World) (b o : Nat) : ∀ (vs : List Value) (i : Nat) (acc : Array Value), (∀ (j : Nat) v, vs[j]? = some v → w.cell? ⟨b, o + i + j, none⟩ = some v) →
    (loadCellsFrom ⟨b, o, none⟩ i vs.length acc).run P w = .ok (acc ++ vs.toArray) w
  | [], i, acc, _ => by simp [loadCellsFrom]
  | v :: vs, i, acc, h => by
    have h0 := h 0 v rfl
    have ih := run_loadCellsFrom w b o vs (i + 1) (acc.push v) (fun j u hu => by
      have := h (j + 1) u (by simpa using hu)
      rw [show o + (i + 1) + j = o + i + (j + 1) from by omega]; exact this)
    simp only [List.length_cons, loadCellsFrom, Sem.run_bind, run_load, add_none, Nat.add_zero] at h0 ⊢
    rw [h0]
    simp only [Result.andThen_ok]
    rw [ih]
    congr 1
    simp
theorem run_loadCells (w : World) (b o : Nat) (vs : List Value) (h : ∀ (j : Nat) v, vs[j]? = some v → w.cell? ⟨b, o + j, none⟩ = some v) :
    (loadCells ⟨b, o, none⟩ vs.length).run P w = .ok vs.toArray w := by
  unfold loadCells
  rw [run_loadCellsFrom w b o vs 0 #[] (by simpa using h)]
  simp
structure Stored (w w' : World) (b o : Nat) (vs : List Value) : Prop where
  os : w'.os = w.os
  tape : w'.tape = w.tape
  output : w'.output = w.output
  size : w'.heap.size = w.heap.size
  block : ∀ k, k ≠ b → w'.heap[k]? = w.heap[k]?
  cell : ∀ (i : Nat) v, vs[i]? = some v → w'.cell? ⟨b, o + i, none⟩ = some v
  other : ∀ p : Addr, (p.off < o ∨ o + vs.length ≤ p.off ∨ p.block ≠ b) → w'.cell? p = w.cell? p
  frozen : ∀ p : Addr, stuck w' p = stuck w p
  same : vs = [] → w' = w
theorem oneC_eq {v : Value} (h : oneC v = true) : v.oneCell' = true := by cases v <;> first | rfl | simp [oneC] at h
theorem run_storeCells : ∀ (vs : List Value) (w : World) (b o i : Nat), (∀ v ∈ vs, oneC v = true) →
    (∀ (j : Nat), j < vs.length → (∃ u, w.cell? ⟨b, o + i + j, none⟩ = some u) ∧ stuck w ⟨b, o + i + j, none⟩ = false) →
    ∃ w', (storeCells ⟨b, o, none⟩ vs i).run P w = .ok () w' ∧ Stored w w' b (o + i) vs
  | [], w, b, o, i, _, _ => ⟨w, by simp [storeCells], ⟨rfl, rfl, rfl, rfl, fun _ _ => rfl, fun i v h => by simp at h, fun _ _ => rfl, fun _ => rfl, fun _ => rfl⟩⟩
  | v :: vs, w, b, o, i, hv, hc => by
    obtain ⟨⟨u, hu⟩, hf⟩ := hc 0 (by simp)
    simp only [Nat.add_zero] at hu hf
    obtain ⟨w', hr, hs⟩ := run_storeCells vs (w.setCell ⟨b, o + i, none⟩ v) b o (i + 1) (fun x hx => hv x (by simp [hx])) (fun j hj => by
      obtain ⟨⟨x, hx⟩, hfx⟩ := hc (j + 1) (by simp; omega)
      refine ⟨⟨x, ?_⟩, ?_⟩
      · rw [World.cell?_setCell_other _ _ _ _ (by simp)]
        rw [show o + (i + 1) + j = o + i + (j + 1) from by omega]; exact hx
      · rw [stuck_setCell, show o + (i + 1) + j = o + i + (j + 1) from by omega]; exact hfx)
    refine ⟨w', ?_, ⟨hs.os, hs.tape, hs.output, by rw [hs.size]; simp, fun k hk => by rw [hs.block k hk]; exact Below.heap_setCell _ _ _ _ hk, ?_, ?_, ?_, by simp⟩⟩
    · simp only [storeCells, Sem.run_bind, add_none]
      rw [run_store P w _ v .plain (oneC_eq (hv v (by simp))), hu]
      simp only [stuck_no hf, Bool.false_eq_true, if_false, Result.andThen_ok]
      exact hr
    · intro j x hx
      cases j with
      | zero =>
        simp at hx; subst hx
        rw [Nat.add_zero, hs.other _ (by left; show o + i < o + (i + 1); omega)]
        exact World.cell?_setCell_same _ _ _ hu
      | succ j =>
        have := hs.cell j x (by simpa using hx)
        rw [show o + i + (j + 1) = o + (i + 1) + j from by omega]; exact this
    · intro p hp
      simp only [List.length_cons] at hp
      rw [hs.other p (by omega)]
      exact World.cell?_setCell_other _ _ _ _ (by rintro rfl; simp at hp; omega)
    · intro p; rw [hs.frozen]; exact stuck_setCell _ _ _ _
end Go.Proofs.YtmpnompddfhkeaaGreat.B
namespace Go.Proofs.YtmpnompddfhkeaaGreat.B
open Go Go.RowKit
variable {U : Uni} {P : Program} {E : Enc U} {fr : Fr} {w : World} {g : G} {s : S U} {a : Act}
theorem getD_of_get {l : Array Value} {t : Nat} {v : Value} (h : l.toList[t]? = some v) : l.getD t undef = v := by
  rw [Array.getElem?_toList] at h
  simp [Array.getD_eq_getD_getElem?, h]
theorem Sim.slot (h : Sim P E fr g s a w) {t : Nat} {x : AV U} (hx : s.tm[t]? = some x) : AVRel P E g s.ob w (a.tmps.getD t undef) x := by
  obtain ⟨v, hv, hr⟩ := All2.get t h.tms hx
  rw [getD_of_get hv]; exact hr
theorem toList_put (l : Array Value) (d : Nat) (v : Value) : (l.setIfInBounds d v).toList = l.toList.set d v := by simp
theorem Sim.put (h : Sim P E fr g s a w) {dst : Option Nat} {v : Value} {r : Res U} (hv : AVRel P E g s.ob w v r.v) (hb : r.bw = []) (ho : r.ow = []) : Sim P E fr g (s.upd dst r) (a.put dst v) w := by
  unfold S.upd
  rw [hb, ho]
  cases dst with
  | none => exact h
  | some d =>
    have ht : All2 (AVRel P E g s.ob w) (a.tmps.setIfInBounds d v).toList (s.tm.set d r.v) := by
      rw [toList_put]; exact All2.set d h.tms hv
    exact { h with tms := ht }
theorem Sim.put' {s' : S U} {dst : Option Nat} {v : Value} {r : Res U} (h : Sim P E fr g { s with bx := sets s.bx r.bw, ob := sets s.ob r.ow } a w) (hv : AVRel P E g (sets s.ob r.ow) w v r.v) : Sim P E fr g (s.upd dst r) (a.put dst v) w := by
  cases dst with
  | none => exact h
  | some d =>
    have ht : All2 (AVRel P E g (sets s.ob r.ow) w) (a.tmps.setIfInBounds d v).toList (s.tm.set d r.v) := by
      rw [toList_put]; exact All2.set d h.tms hv
    exact { h with tms := ht }
def Same (g : G) (w : World) (g' : G) (w' : World) (x : Own) : Prop :=
  ∀ b o, g.ω b o = some x → g'.ω b o = some x ∧ w'.cell? ⟨b, o, none⟩ = w.cell? ⟨b, o, none⟩ ∧ stuck w' ⟨b, o, none⟩ = stuck w ⟨b, o, none⟩
theorem Same.keeps {g g' : G} {w w' : World} (h : Same g w g' w' .st) : Keeps g.St w g'.St w' := fun b o hs => ⟨(h b o hs).1, (h b o hs).2.1⟩
theorem BoxRel.keep {g g' : G} {ob ob' : List (Option (Ob U))} {w w' : World} {k : Nat} {fz : Bool} {cells : List (C U)} (h : BoxRel P E g ob w k fz cells) (hl : g.lb k) (hg : GLe g ob w g' ob' w') (hs : Same g w g' w' (.box k)) :
    BoxRel P E g' ob' w' k fz cells := by
  obtain ⟨vs, h1, h2⟩ := h
  refine ⟨vs, h1.imp fun _ _ => CRel.mono hg, fun i v hv => ?_⟩
  obtain ⟨i1, i2, i3⟩ := h2 i v hv
  rw [(hg.lb k hl).2]
  cases fz with
  | false =>
    obtain ⟨j1, j2⟩ := i2 rfl
    obtain ⟨k1, k2, k3⟩ := hs _ _ j2
    exact ⟨by rw [k2]; exact i1, fun _ => ⟨by rw [k3]; exact j1, k1⟩, by simp⟩
  | true =>
    obtain ⟨k1, k2⟩ := hg.st _ _ (i3 rfl)
    exact ⟨by rw [k2]; exact i1, by simp, fun _ => k1⟩
theorem ObRel.keep {g g' : G} {w w' : World} {k : Nat} {o : Ob U} (h : ObRel E g w k o) (hk : Keeps g.St w g'.St w') (hs : Same g w g' w' (.obj k)) (ht : g'.tk k = g.tk k) : ObRel E g' w' k o := by
  obtain ⟨h1, h2⟩ := h
  refine ⟨by rw [ht]; exact h1, fun hc => ?_⟩
  rw [ht] at hc ⊢
  obtain ⟨b, off, cv, e, hA⟩ := h2 hc
  refine ⟨b, off, cv, e, ⟨fun i j hi hj => ?_, fun i hi j d hd => (hA.rel i hi j d hd).mono hk, fun hl x hx hx' => ?_⟩⟩
  · obtain ⟨c1, c2⟩ := hA.cell i j hi hj
    unfold Mode at c2 ⊢
    split at c2
    · obtain ⟨k1, k2⟩ := hk _ _ c2
      exact ⟨by rw [k2]; exact c1, k1⟩
    · rename_i f hf
      rcases Nat.lt_or_ge i f with hlt | hge
      · obtain ⟨k1, k2⟩ := hk _ _ (c2.1 hlt)
        exact ⟨by rw [k2]; exact c1, fun _ => k1, fun hh => by omega⟩
      · obtain ⟨d1, d2⟩ := c2.2 hge
        obtain ⟨k1, k2, k3⟩ := hs _ _ d1
        exact ⟨by rw [k2]; exact c1, fun hh => by omega, fun _ => ⟨k1, by rw [k3]; exact d2⟩⟩
  · obtain ⟨d1, ⟨v, d2⟩, d3⟩ := hA.spare hl x hx hx'
    obtain ⟨k1, k2, k3⟩ := hs _ _ d1
    exact ⟨k1, ⟨v, by rw [k2]; exact d2⟩, by rw [k3]; exact d3⟩
theorem FExt.later {w w' : World} (h : FExt fr w) (hb : Ext w w') : FExt fr w' :=
  ⟨hb.os.trans h.os, hb.tape.trans h.tape, hb.output.trans h.output, Nat.le_trans h.size hb.le,
   fun k hk ho => (hb.block (Nat.lt_of_lt_of_le hk h.size)).trans (h.block k hk ho),
   fun b o hk ho => (hb.cell (p := ⟨b, o, none⟩) (Nat.lt_of_lt_of_le hk h.size)).trans (h.cell b o hk ho),
   fun b o hk ho => (hb.stuck (p := ⟨b, o, none⟩) (Nat.lt_of_lt_of_le hk h.size)).trans (h.frozen b o hk ho)⟩
theorem FExt.stored {w w' : World} {b off : Nat} {vs : List Value} (h : FExt fr w) (hst : Stored w w' b off vs) (ho : ∀ (i : Nat), i < vs.length → fr.w0.heap.size ≤ b ∨ fr.own b (off + i)) : FExt fr w' := by
  refine ⟨hst.os.trans h.os, hst.tape.trans h.tape, hst.output.trans h.output, by rw [hst.size]; exact h.size, fun k hk hn => ?_, fun b' o hk hn => ?_, fun b' o hk hn => (hst.frozen _).trans (h.frozen b' o hk hn)⟩
  · by_cases e : k = b
    · subst e
      cases vs with
      | nil =>
        have := hst.same rfl
        rw [this]; exact h.block k hk hn
      | cons v vs =>
        rcases ho 0 (by simp) with h1 | h1
        · omega
        · exact (hn _ h1).elim
    · exact (hst.block k e).trans (h.block k hk hn)
  · refine Eq.trans ?_ (h.cell b' o hk hn)
    refine hst.other _ ?_
    by_cases e : b' = b
    · subst e
      by_cases h1 : o < off
      · exact .inl h1
      · by_cases h2 : off + vs.length ≤ o
        · exact .inr (.inl h2)
        · rcases ho (o - off) (by omega) with h3 | h3
          · omega
          · rw [show off + (o - off) = o from by omega] at h3; exact (hn h3).elim
    · exact .inr (.inr e)
theorem Sim.later (h : Sim P E fr g s a w) {w' : World} (hb : Ext w w') : Sim P E fr g s a w' := by
  have hs : ∀ x, Same g w g w' x := fun x b o hx => ⟨hx, hb.cell (h.own b o x hx).1, hb.stuck (p := ⟨b, o, none⟩) (h.own b o x hx).1⟩
  have hg : GLe g s.ob w g s.ob w' := { GLe.refl g s.ob w with st := (hs .st).keeps }
  refine { ext := h.ext.later hb, tms := h.tms.imp fun _ _ => AVRel.mono hg, bxs := fun k fz cells hk => ?_, lbs := h.lbs, obs := fun k o hk => (h.obs k o hk).keep hg.st (hs _) rfl, own := fun b o x hx => ⟨Nat.lt_of_lt_of_le (h.own b o x hx).1 hb.le, (h.own b o x hx).2⟩, dfr := h.dfr, fix := h.fix, bas := h.bas }
  obtain ⟨hl, hbx⟩ := h.bxs k fz cells hk
  exact ⟨hl, hbx.keep hl hg (hs _)⟩
theorem vrel_c {St : Nat → Nat → Prop} {ob : List (Option (Ob U))} (hs : St = g.St) {v : Value} {d : V U} (h : VRel E St w v d) : CRel P E g ob w v (C.ofV d) := by
  subst hs
  cases h with
  | s x h => exact ⟨rfl, h⟩
  | nil τ aa cap => exact ⟨.nil τ aa cap, by simp⟩
  | dat τ xs b o cap cv hcap h1 h2 => exact ⟨.dat τ xs b o cap cv hcap h1 h2, by simp⟩
theorem get_map_range {α : Type} {f : Nat → α} {n j : Nat} {v : α} (h : ((List.range n).map f)[j]? = some v) : j < n ∧ f j = v := by
  rw [List.getElem?_map] at h
  rcases Nat.lt_or_ge j n with hj | hj
  · rw [List.getElem?_range hj] at h; simp at h; exact ⟨hj, h⟩
  · rw [List.getElem?_eq_none (by simpa using hj)] at h; simp at h
theorem obAt_eq {k v : Nat} {o : Ob U} (h : s.obAt k v = some o) : s.ob[k]? = some (some o) ∧ o.ver = v := by
  unfold S.obAt at h
  split at h
  · rename_i o' ho
    split at h
    · rename_i hb; simp at h; subst h; exact ⟨ho, Nat.eq_of_beq_eq_true hb⟩
    · simp at h
  · simp at h
theorem Sim.obval (h : Sim P E fr g s a w) {k v : Nat} {o : Ob U} {x : Value} (ho : s.obAt k v = some o) (hx : CRel P E g s.ob w x (.ob k v)) : x = .slice (g.tk k).1 o.xs.length (g.tk k).2 ∧ ObRel E g w k o := by
  obtain ⟨h1, h2⟩ := obAt_eq ho
  obtain ⟨_, o', h3, h4, h5⟩ := hx
  rw [h1] at h3; simp at h3; subst h3
  exact ⟨h5 h2.symm, h.obs k o h1⟩
theorem Sim.len (h : Sim P E fr g s a w) {c : C U} {τ : U.Ty} {xs : List (U.Den τ)} {x : Value} (hl : s.lst c = some ⟨τ, xs⟩) (hx : CRel P E g s.ob w x c) : ∃ p cap, x = .slice p xs.length cap ∧ xs.length ≤ cap ∧ xs.length ≤ 9223372036854775807 := by
  cases c with
  | sl τ' xs' f =>
    simp [S.lst] at hl; obtain ⟨rfl, hl⟩ := hl; simp at hl; subst hl
    rcases hx.1.inv with ⟨rfl, p, cap, rfl⟩ | ⟨b, o, cap, cv, rfl, hcap, _⟩
    · exact ⟨p, cap, rfl, by simp⟩
    · exact ⟨_, cap, rfl, hcap⟩
  | ob k v =>
    simp only [S.lst] at hl
    split at hl
    · rename_i o ho
      simp at hl; obtain ⟨rfl, hl⟩ := hl; simp at hl; subst hl
      obtain ⟨h1, h2⟩ := h.obval ho hx
      exact ⟨_, _, h1, h2.1.1⟩
    · simp at hl
  | _ => simp [S.lst] at hl
def RowAt (E : Enc U) (St : Nat → Nat → Prop) (w : World) (τ : U.Ty) (xs : List (U.Den τ)) (p : Option Addr) (vs : List Value) : Prop :=
  vs.length = xs.length * U.sz τ ∧ (xs ≠ [] → ∃ b o, p = some ⟨b, o, none⟩ ∧ ∀ (q : Nat) v, vs[q]? = some v → w.cell? ⟨b, o + q, none⟩ = some v) ∧
  ∀ i (hi : i < xs.length) j d, (E.enc τ xs[i])[j]? = some d → ∃ u, vs[i * U.sz τ + j]? = some u ∧ VRel E St w u d
theorem row_of {St : Nat → Nat → Prop} {τ : U.Ty} {xs : List (U.Den τ)} {b o : Nat} {cv : Nat → Nat → Value} (hz : 0 < U.sz τ)
    (g1 : ∀ i j, i < xs.length → j < U.sz τ → w.cell? ⟨b, o + i * U.sz τ + j, none⟩ = some (cv i j))
    (g2 : ∀ i (hi : i < xs.length) j d, (E.enc τ xs[i])[j]? = some d → VRel E St w (cv i j) d) : ∃ vs, RowAt E St w τ xs (some ⟨b, o, none⟩) vs := by
  refine ⟨(List.range (xs.length * U.sz τ)).map (fun q => cv (q / U.sz τ) (q % U.sz τ)), by simp, fun _ => ⟨b, o, rfl, fun q v hq => ?_⟩, fun i hi j d hd => ?_⟩
  · obtain ⟨hlt, rfl⟩ := get_map_range hq
    have h1 : q / U.sz τ < xs.length := (Nat.div_lt_iff_lt_mul hz).2 hlt
    have h2 := g1 (q / U.sz τ) (q % U.sz τ) h1 (Nat.mod_lt _ hz)
    have h3 : q / U.sz τ * U.sz τ + q % U.sz τ = q := by rw [Nat.mul_comm]; exact Nat.div_add_mod q _
    rw [Nat.add_assoc, h3] at h2
    exact h2
  · have hj : j < U.sz τ := by
      rw [← E.len τ xs[i]]
      exact (List.getElem?_eq_some_iff.1 hd).1
    have hlt : i * U.sz τ + j < xs.length * U.sz τ := by
      have : (i + 1) * U.sz τ ≤ xs.length * U.sz τ := Nat.mul_le_mul_right _ hi
      rw [Nat.add_mul] at this; omega
    refine ⟨cv i j, ?_, g2 i hi j d hd⟩
    rw [List.getElem?_map, List.getElem?_range hlt]
    simp only [Option.map_some]
    rw [show (i * U.sz τ + j) / U.sz τ = i from by rw [Nat.mul_comm, Nat.mul_add_div hz, Nat.div_eq_of_lt hj, Nat.add_zero], show (i * U.sz τ + j) % U.sz τ = j from by rw [Nat.mul_comm, Nat.mul_add_mod, Nat.mod_eq_of_lt hj]]
theorem row_nil {St : Nat → Nat → Prop} {τ : U.Ty} (p : Option Addr) : RowAt E St w τ [] p [] := ⟨by simp, by simp, fun i hi => by simp at hi⟩
theorem Sim.row (h : Sim P E fr g s a w) {c : C U} {τ : U.Ty} {xs : List (U.Den τ)} {p : Option Addr} {n cap : Nat} (hz : 0 < U.sz τ) (hl : s.lst c = some ⟨τ, xs⟩) (hx : CRel P E g s.ob w (.slice p n cap) c) :
    n = xs.length ∧ n ≤ cap ∧ ∃ vs, RowAt E g.St w τ xs p vs := by
  obtain ⟨p', cap', e, hcap⟩ := h.len hl hx
  simp at e; obtain ⟨rfl, rfl, rfl⟩ := e
  refine ⟨rfl, hcap.1, ?_⟩
  cases c with
  | sl τ' xs' f =>
    simp [S.lst] at hl; obtain ⟨rfl, hl⟩ := hl; simp at hl; subst hl
    rcases hx.1.inv with ⟨rfl, _⟩ | ⟨b, o, cap', cv, hv, hcap', g1, g2⟩
    · exact ⟨[], row_nil p⟩
    · simp at hv; obtain ⟨rfl, _⟩ := hv
      exact row_of hz (fun i j hi hj => (g1 i j hi hj).2) g2
  | ob k v =>
    simp only [S.lst] at hl
    split at hl
    · rename_i o ho
      simp at hl; obtain ⟨rfl, hl⟩ := hl; simp at hl; subst hl
      obtain ⟨h1, h2⟩ := h.obval ho hx
      simp at h1; obtain ⟨rfl, h1⟩ := h1
      by_cases h0 : o.xs = []
      · rw [h0]; exact ⟨[], row_nil _⟩
      · have hpos : 0 < (g.tk k).2 := by have := List.length_pos_iff.2 h0; have := h2.1.1; omega
        obtain ⟨b, off, cv, e, hA⟩ := h2.2 hpos
        rw [e]
        exact row_of hz (fun i j hi hj => (hA.cell i j hi hj).1) hA.rel
    · simp at hl
  | _ => simp [S.lst] at hl
theorem ObRel.data {k : Nat} {o : Ob U} (h : ObRel E g w k o) (hf : o.fr = none) : VRel E g.St w (.slice (g.tk k).1 o.xs.length (g.tk k).2) (.dat o.τ o.xs) := by
  by_cases h0 : o.xs.length = 0
  · have : o.xs = [] := List.eq_nil_of_length_eq_zero h0
    rw [this]; exact .nil _ _ _
  · obtain ⟨b, off, cv, e, hA⟩ := h.2 (by have := h.1.1; omega)
    rw [e]
    refine .dat o.τ o.xs b off _ cv h.1.1 (fun i j hi hj => ?_) hA.rel
    obtain ⟨c1, c2⟩ := hA.cell i j hi hj
    unfold Mode at c2
    rw [hf] at c2
    exact ⟨c2, c1⟩
end Go.Proofs.YtmpnompddfhkeaaGreat.B
namespace Go.Proofs.YtmpnompddfhkeaaGreat.B
open Go Go.RowKit
variable {U : Uni}
def aggD : TypeDesc → Bool
  | .struct _ => true
  | .array _ _ => true
  | _ => false
def Shp (P : Program) (t : TypeId) (agg : Bool) (n : Nat) : Prop := ∃ d i, P.underlying t = some d ∧ aggD d = agg ∧ P.info? t = some i ∧ i.size = n
def TIOK (P : Program) (t : TypeId) (x : TI U) : Prop :=
  (∀ agg n, x.shape = some (agg, n) → Shp P t agg n) ∧
  match x with
  | .int k => P.underlying t = some (.int k)
  | .bool => P.underlying t = some .bool
  | .str => P.underlying t = some .string
  | .sl e τ bytes => P.underlying t = some (.slice e) ∧ (0 < U.sz τ ∧ 0 < bytes) ∧ ∃ i z, P.info? e = some i ∧ i.size = U.sz τ ∧ i.bytes = bytes ∧ i.zero = some z ∧ z.cells.size = U.sz τ
  | .st fs _ => ∃ fl, P.underlying t = some (.struct fl) ∧ fl.size = fs.length ∧ ∀ (f : Nat) d, fs[f]? = some d → ∃ fd, fl[f]? = some fd ∧ fd.offset = d.1 ∧ 0 < d.2.1 ∧ Shp P fd.type d.2.2 d.2.1
  | .ar len esz eagg => ∃ e, P.underlying t = some (.array len e) ∧ Shp P e eagg esz
  | .one => True
  | .oth => True
def ZRel (v : Value) (c : C U) : Prop := ∀ (P : Program) (E : Enc U) (g : G) (ob : List (Option (Ob U))) (w : World), CRel P E g ob w v c
def EK.desc : EK → TypeDesc
  | .int k => .int k
  | .str => .string
  | .bool => .bool
def EqFs (P : Program) : Nat → List Field → List EK → Prop
  | _, [], [] => True
  | i, f :: fs, e :: es => (f.name ≠ "_" ∧ f.offset = i ∧ P.underlying f.type = some e.desc) ∧ EqFs P (i + 1) fs es
  | _, _, _ => False
def EqOK (P : Program) (t : TypeId) (es : List EK) : Prop :=
  P.eqGuardType P.depth t = false ∧
  ((∃ fl, P.underlying t = some (.struct fl) ∧ P.stoodInHeld t = false ∧ EqFs P 0 fl.toList es) ∨
   (∃ n e k, P.underlying t = some (.array n e) ∧ P.underlying e = some (EK.desc k) ∧ es = List.replicate n k ∧ P.cellsOf e = 1 ∧ ∃ i, P.info? e = some i))
structure TabOK (P : Program) (M : Mc U) : Prop where
  eqs : ∀ t es, look t M.eqs = some es → EqOK P t es
  ti : ∀ t, TIOK P t (M.ti t)
  zero : ∀ t cs, M.zero t = some cs → ∃ i z, P.info? t = some i ∧ i.zero = some z ∧ All2 ZRel z.cells.toList cs
def DCRel (P : Program) (E : Enc U) (St : Nat → Nat → Prop) (w : World) (v : Value) : DC U → Prop
  | .v x => VRel E St w v x
  | .fn φ => FunRel P E St w v φ
def DRel (P : Program) (E : Enc U) (St : Nat → Nat → Prop) (w : World) (v : Value) : D U → Prop
  | .d x => D0Rel E St w v x
  | .fn φ => FunRel P E St w v φ
  | .box cs => ∃ b, v = .pointer (some ⟨b, 0, none⟩) ∧ ∀ (i : Nat) c, cs[i]? = some c → St b i ∧ ∃ u, w.cell? ⟨b, i, none⟩ = some u ∧ DCRel P E St w u c
def Ret (P : Program) (E : Enc U) (St : Nat → Nat → Prop) (w w' : World) (v : Value) (rs : List (A U)) (os : List (Ob U)) : Prop :=
  Ext w w' ∧ ∃ g : G, (∀ k, ¬ g.lb k) ∧ (∀ b o x, b < w.heap.size → g.ω b o = some x → x = .st ∧ St b o) ∧ (∀ b o x, g.ω b o = some x → b < w'.heap.size) ∧
    RetRel (ARel P E g (os.map some) w') v rs ∧ ∀ k o, os[k]? = some o → ObRel E g w' k o ∧ o.ver = 0
def Contract (P : Program) (E : Enc U) (f : FuncId) (args : List (D U)) (rs : List (A U)) (os : List (Ob U)) : Prop :=
  ∀ (w : World) (St : Nat → Nat → Prop) (vs : List Value), (∀ b o, St b o → b < w.heap.size) → All2 (DRel P E St w) vs args →
    Calls P f vs.toArray w fun e w' => ∃ v, e = .returned v ∧ Ret P E St w w' v rs os
def Contract0 (P : Program) (E : Enc U) (f : FuncId) (args : List (D U)) (rs : List (D0 U)) : Prop :=
  ∀ (w : World) (St : Nat → Nat → Prop) (vs : List Value), (∀ b o, St b o → b < w.heap.size) → All2 (DRel P E St w) vs args →
    Calls P f vs.toArray w fun e w' => ∃ v, e = .returned v ∧ Ret0 E St w w' v rs
structure Part (P : Program) (E : Enc U) (g : G) (w : World) (bs : List (Bool × List (C U))) (os : List (Ob U)) : Prop where
  bxs : ∀ k fz cells, bs[k]? = some (fz, cells) → g.lb k ∧ BoxRel P E g (os.map some) w k fz cells
  lbs : ∀ k, g.lb k → k < bs.length
  obs : ∀ k o, os[k]? = some o → ObRel E g w k o ∧ o.ver = 0
  own : ∀ b o x, g.ω b o = some x → b < w.heap.size
def G.mine (g : G) (b o : Nat) : Prop := ∃ y, y ≠ Own.st ∧ g.ω b o = some y
def RetG (P : Program) (E : Enc U) (g : G) (w w' : World) (v : Value) (rs : List (A U)) (bxs' : List (Bool × List (C U))) (obs' : List (Ob U)) : Prop :=
  ∃ g' : G, FExt ⟨w, g.mine, g.St, bxs'.length, g.β⟩ w' ∧ Part P E g' w' bxs' obs' ∧ (∀ k, g.lb k → g'.β k = g.β k) ∧ (∀ b o x, b < w.heap.size → g'.ω b o = some x → g.mine b o ∨ (x = .st ∧ g.St b o)) ∧ RetRel (ARel P E g' (obs'.map some) w') v rs
def GContract (P : Program) (E : Enc U) (f : FuncId) (args : List (A U)) (bxs : List (Bool × List (C U))) (obs : List (Ob U)) (rs : List (A U)) (bxs' : List (Bool × List (C U))) (obs' : List (Ob U)) : Prop :=
  ∀ (w : World) (g : G) (vs : List Value), Part P E g w bxs obs → All2 (ARel P E g (obs.map some) w) vs args →
    Calls P f vs.toArray w fun e w' => ∃ v, e = .returned v ∧ RetG P E g w w' v rs bxs' obs'
def UContract (P : Program) (E : Enc U) (f : FuncId) (τ : U.Ty) (xs : List (U.Den τ)) (ds : List (D U)) (ys : List (U.Den τ)) : Prop :=
  ∀ (w : World) (g : G) (k ver : Nat) (live : Bool) (vs : List Value), ObRel E g w k ⟨ver, τ, xs, some 0, live⟩ → (∀ b o x, g.ω b o = some x → b < w.heap.size) → All2 (DRel P E g.St w) vs ds →
    Calls P f (.slice (g.tk k).1 xs.length (g.tk k).2 :: vs).toArray w fun e w' => e = .returned (.tuple #[]) ∧ ys.length = xs.length ∧ FExt ⟨w, fun b i => g.ω b i = some (.obj k), g.St, 0, g.β⟩ w' ∧ ObRel E g w' k ⟨ver, τ, ys, some 0, live⟩
structure FnsOK (P : Program) (M : Mc U) : Prop where
  ups : ∀ f F τ xs ds ob ys, M.ups f = some F → F τ xs ds = some (ob, ys) → (∀ p ∈ ob, p) → UContract P M.E f τ xs ds ys ∧ HasBody P f
  gns : ∀ f ms F args bxs obs ob rs bxs' obs', M.gns f = some (ms, F) → F args bxs obs = some (ob, rs, bxs', obs') → (∀ p ∈ ob, p) → GContract P M.E f args bxs obs rs bxs' obs' ∧ HasBody P f
  fns : ∀ f F args ob rs os, M.fns f = some F → F args = some (ob, rs, os) → (∀ p ∈ ob, p) → Contract P M.E f args rs os ∧ HasBody P f
  fvb : ∀ f φ, M.fvs f = some φ → HasBody P f
  fvs : ∀ f φ args ob rs, M.fvs f = some φ → φ args = some (ob, rs) → (∀ p ∈ ob, p) → Contract0 P M.E f (args.map .d) rs
  clb : ∀ f F, M.clo f = some F → HasBody P f
  clo : ∀ f F dl φ args ob rs, M.clo f = some F → F dl = some φ → φ args = some (ob, rs) → (∀ p ∈ ob, p) → Contract0 P M.E f (args.map .d ++ dl.map .box) rs
def shpB (P : Program) (t : TypeId) (agg : Bool) (n : Nat) : Bool :=
  match P.underlying t, P.info? t with
  | some d, some i => aggD d == agg && i.size == n
  | _, _ => false
theorem shp_of {P : Program} {t : TypeId} {agg : Bool} {n : Nat} (h : shpB P t agg n = true) : Shp P t agg n := by
  unfold shpB at h
  split at h
  · rename_i d i h1 h2
    simp at h
    exact ⟨d, i, h1, h.1, h2, h.2⟩
  · simp at h
def fieldsB (P : Program) : List Field → List (Nat × Nat × Bool) → Bool
  | [], [] => true
  | [], _ :: _ => false
  | _ :: _, [] => false
  | fd :: fl, d :: ds => fd.offset == d.1 && decide (0 < d.2.1) && shpB P fd.type d.2.2 d.2.1 && fieldsB P fl ds
theorem fields_of {P : Program} : ∀ {fl : List Field} {ds : List (Nat × Nat × Bool)}, fieldsB P fl ds = true → ∀ (f : Nat) d, ds[f]? = some d → ∃ fd, fl[f]? = some fd ∧ fd.offset = d.1 ∧ 0 < d.2.1 ∧ Shp P fd.type d.2.2 d.2.1
  | _, [], _, f, d, h => by simp at h
  | [], _ :: _, hb, _, _, _ => by simp [fieldsB] at hb
  | fd :: fl, d0 :: ds, hb, f, d, h => by
    simp only [fieldsB, Bool.and_eq_true, beq_iff_eq, decide_eq_true_eq] at hb
    obtain ⟨⟨⟨h1, h2⟩, h3⟩, h4⟩ := hb
    cases f with
    | zero => simp at h; subst h; exact ⟨fd, rfl, h1, h2, shp_of h3⟩
    | succ f => simp only [List.getElem?_cons_succ] at h ⊢; exact fields_of h4 f d h
theorem fields_len {P : Program} : ∀ {fl : List Field} {ds : List (Nat × Nat × Bool)}, fieldsB P fl ds = true → fl.length = ds.length
  | [], [], _ => rfl
  | [], _ :: _, h => by simp [fieldsB] at h
  | _ :: _, [], h => by simp [fieldsB] at h
  | _ :: _, _ :: _, h => by
    simp only [fieldsB, Bool.and_eq_true] at h
    simp [fields_len h.2]
def tiB (P : Program) (t : TypeId) (x : TI U) : Bool :=
  (match x.shape with | some (agg, n) => shpB P t agg n | none => true) &&
  match x with
  | .int k => (match P.underlying t with | some (.int k') => decide (k' = k) | _ => false)
  | .bool => (match P.underlying t with | some .bool => true | _ => false)
  | .str => (match P.underlying t with | some .string => true | _ => false)
  | .sl e τ bytes => (match P.underlying t, P.info? e with
    | some (.slice e'), some i => e' == e && decide (0 < U.sz τ ∧ 0 < bytes) && i.size == U.sz τ && i.bytes == bytes && (match i.zero with | some z => z.cells.size == U.sz τ | none => false)
    | _, _ => false)
  | .st fs _ => (match P.underlying t with | some (.struct fl) => fieldsB P fl.toList fs | _ => false)
  | .ar len esz eagg => (match P.underlying t with | some (.array len' e) => len' == len && shpB P e eagg esz | _ => false)
  | .one => true
  | .oth => true
theorem ti_of {P : Program} {t : TypeId} {x : TI U} (h : tiB P t x = true) : TIOK P t x := by
  simp only [tiB, Bool.and_eq_true] at h
  obtain ⟨h0, h1⟩ := h
  refine ⟨fun agg n hs => ?_, ?_⟩
  · rw [hs] at h0; exact shp_of h0
  · cases x with
    | int k => dsimp only at h1 ⊢; split at h1 <;> simp_all
    | bool => dsimp only at h1 ⊢; split at h1 <;> simp_all
    | str => dsimp only at h1 ⊢; split at h1 <;> simp_all
    | sl e τ bytes =>
      dsimp only at h1 ⊢
      split at h1
      · rename_i e' i h2 h3
        simp only [Bool.and_eq_true, beq_iff_eq, decide_eq_true_eq] at h1
        obtain ⟨⟨⟨⟨rfl, h5⟩, h6⟩, h7⟩, h8⟩ := h1
        split at h8
        · rename_i z hz
          exact ⟨h2, h5, i, z, h3, h6, h7, hz, by simpa using h8⟩
        · simp at h8
      · simp at h1
    | st fs n =>
      dsimp only at h1 ⊢
      split at h1
      · rename_i fl h2
        refine ⟨fl, h2, by rw [← fields_len h1]; simp, fun f d hd => ?_⟩
        obtain ⟨fd, i1, i2⟩ := fields_of h1 f d hd
        exact ⟨fd, by rw [Array.getElem?_toList] at i1; exact i1, i2⟩
      · simp at h1
    | ar len esz eagg =>
      dsimp only at h1 ⊢
      split at h1
      · rename_i len' e h2
        simp only [Bool.and_eq_true, beq_iff_eq] at h1
        obtain ⟨rfl, h3⟩ := h1
        exact ⟨e, h2, shp_of h3⟩
      · simp at h1
    | one => trivial
    | oth => trivial
theorem z_of {v : Value} {c : C U} (h : zB v c = true) : ZRel v c := by
  intro P E g ob w
  unfold zB at h
  split at h
  · simp at h; obtain ⟨⟨rfl, rfl⟩, h2⟩ := h; exact ⟨rfl, h2⟩
  · simp at h; subst h; exact ⟨rfl, rfl⟩
  · rename_i b b'
    cases b; cases b'; simp at h; obtain ⟨h1, h2⟩ := h; subst h1; exact ⟨rfl, h2⟩
  · exact ⟨rfl, rfl⟩
  · exact ⟨rfl, rfl⟩
  · exact ⟨.nil _ _ _, fun _ => ⟨_, _, rfl⟩⟩
  · simp at h
theorem zs_of : ∀ {vs : List Value} {cs : List (C U)}, zsB vs cs = true → All2 ZRel vs cs
  | [], [], _ => trivial
  | v :: vs, c :: cs, h => by
    simp only [zsB, Bool.and_eq_true] at h
    exact ⟨z_of h.1, zs_of h.2⟩
  | [], _ :: _, h => by simp [zsB] at h
  | _ :: _, [], h => by simp [zsB] at h
def descB : Option TypeDesc → EK → Bool
  | some (.int k), .int k' => decide (k = k')
  | some .string, .str => true
  | some .bool, .bool => true
  | _, _ => false
theorem desc_of {d : Option TypeDesc} {e : EK} (h : descB d e = true) : d = some e.desc := by
  unfold descB at h
  split at h
  · have := of_decide_eq_true h; subst this; rfl
  · rfl
  · rfl
  · simp at h
def eqFsB (P : Program) : Nat → List Field → List EK → Bool
  | _, [], [] => true
  | i, f :: fs, e :: es => (f.name != "_" && f.offset == i && descB (P.underlying f.type) e) && eqFsB P (i + 1) fs es
  | _, _, _ => false
theorem eqFs_of {P : Program} : ∀ {i : Nat} {fs : List Field} {es : List EK}, eqFsB P i fs es = true → EqFs P i fs es
  | _, [], [], _ => trivial
  | i, f :: fs, e :: es, h => by
    simp only [eqFsB, Bool.and_eq_true, bne_iff_ne, beq_iff_eq] at h
    exact ⟨⟨h.1.1.1, h.1.1.2, desc_of h.1.2⟩, eqFs_of h.2⟩
  | _, [], _ :: _, h => by simp [eqFsB] at h
  | _, _ :: _, [], h => by simp [eqFsB] at h
def eqB (P : Program) (t : TypeId) (es : List EK) : Bool :=
  !(P.eqGuardType P.depth t) && match P.underlying t with
  | some (.struct fl) => !(P.stoodInHeld t) && eqFsB P 0 fl.toList es
  | some (.array n e) => es.length == n && (match es with | k :: _ => es.all (fun x => descB (P.underlying e) x && match x, k with | .int a, .int b => decide (a = b) | .str, .str => true | .bool, .bool => true | _, _ => false) | [] => false) && P.cellsOf e == 1 && (P.info? e).isSome
  | _ => false
theorem eq_of {P : Program} {t : TypeId} {es : List EK} (h : eqB P t es = true) : EqOK P t es := by
  unfold eqB at h
  rw [Bool.and_eq_true] at h
  refine ⟨by simpa using h.1, ?_⟩
  have h2 := h.2
  split at h2
  · rename_i fl hu
    rw [Bool.and_eq_true] at h2
    exact .inl ⟨fl, hu, by simpa using h2.1, eqFs_of h2.2⟩
  · rename_i n e hu
    simp only [Bool.and_eq_true, beq_iff_eq] at h2
    obtain ⟨⟨⟨h3, h4⟩, h5⟩, h6⟩ := h2
    cases es with
    | nil => simp at h4
    | cons k r =>
      dsimp only at h4
      rw [List.all_eq_true] at h4
      have h7 := h4 k (by simp)
      rw [Bool.and_eq_true] at h7
      refine .inr ⟨n, e, k, hu, desc_of h7.1, ?_, h5, Option.isSome_iff_exists.1 h6⟩
      rw [List.eq_replicate_iff]
      refine ⟨h3, fun x hx => ?_⟩
      have := h4 x hx
      rw [Bool.and_eq_true] at this
      cases x <;> cases k <;> simp_all
  · simp at h2
def tabB (P : Program) (M : Mc U) : Bool :=
  M.eqs.all (fun x => eqB P x.1 x.2) && M.tab.all (fun x => tiB P x.1 x.2) && M.zeros.all (fun x => match P.info? x.1 with
    | some i => (match i.zero with | some z => zsB z.cells.toList x.2 | none => false)
    | none => false)
theorem look_mem {α : Type} {t : Nat} {x : α} : ∀ {l : List (Nat × α)}, look t l = some x → (t, x) ∈ l
  | [], h => by simp [look] at h
  | (k, y) :: r, h => by
    simp only [look] at h
    split at h
    · rename_i hb
      have := Nat.eq_of_beq_eq_true hb
      simp at h; subst this; subst h; simp
    · exact List.mem_cons_of_mem _ (look_mem h)
theorem tab_of {P : Program} {M : Mc U} (h : tabB P M = true) : TabOK P M := by
  simp only [tabB, Bool.and_eq_true, List.all_eq_true] at h
  obtain ⟨⟨h0, h1⟩, h2⟩ := h
  have h : (∀ x ∈ M.tab, tiB P x.1 x.2 = true) ∧ _ := ⟨h1, h2⟩
  refine ⟨fun t es he => eq_of (h0 (t, es) (look_mem he)), fun t => ?_, fun t cs hz => ?_⟩
  · unfold Mc.ti
    cases hl : look t M.tab with
    | none => exact ⟨fun _ _ hs => by simp [TI.shape] at hs, trivial⟩
    | some x => exact ti_of (h.1 (t, x) (look_mem hl))
  · have := h.2 (t, cs) (look_mem hz)
    dsimp only at this
    cases hi : P.info? t with
    | none => simp [hi] at this
    | some i =>
      cases hz' : i.zero with
      | none => simp [hi, hz'] at this
      | some z => simp [hi, hz'] at this; exact ⟨i, z, rfl, hz', zs_of this⟩
end Go.Proofs.YtmpnompddfhkeaaGreat.B
namespace Go.Proofs.YtmpnompddfhkeaaGreat.B
open Go Go.RowKit
variable {U : Uni} {P : Program} {E : Enc U} {fr : Fr} {w : World} {g : G} {s : S U} {a : Act}
theorem cell_new (w : World) (vs : List Value) (t : TypeId) (i : Nat) (v : Value) (h : vs[i]? = some v) : (w.alloc (.cells vs.toArray t)).cell? ⟨w.heap.size, i, none⟩ = some v := by
  simp [h]
theorem Sim.sameNew (h : Sim P E fr g s a w) (O : Obj) {g' : G} (hω : ∀ b o, b < w.heap.size → g'.ω b o = g.ω b o) (x : Own) : Same g w g' (w.alloc O) x := by
  intro b o hx
  have hb := (h.own b o x hx).1
  have hext : Ext w (w.alloc O) := (Ext.refl _).alloc _
  exact ⟨by rw [hω b o hb]; exact hx, hext.cell (p := ⟨b, o, none⟩) hb, hext.stuck (p := ⟨b, o, none⟩) hb⟩
theorem Sim.newBox (h : Sim P E fr g s a w) {k : Nat} {vs : List Value} {cs : List (C U)} (t : TypeId) (hk : s.bx[k]? = some none) (hkb : s.base ≤ k) (hr : All2 (CRel P E g s.ob w) vs cs) :
    ∃ g', Sim P E fr g' { s with bx := s.bx.set k (some (false, cs)) } a (w.alloc (.cells vs.toArray t)) ∧ CRel P E g' s.ob (w.alloc (.cells vs.toArray t)) (.pointer (some ⟨w.heap.size, 0, none⟩)) (.bx k 0) := by
  have hext : Ext w (w.alloc (.cells vs.toArray t)) := (Ext.refl _).alloc _
  have hnl : ¬ g.lb k := fun hl => by obtain ⟨cells, hc⟩ := h.lbs _ hl; rw [hk] at hc; simp at hc
  let g' : G := { g with β := fun q => if q = k then w.heap.size else g.β q, lb := fun q => g.lb q ∨ q = k, ω := fun b o => if b = w.heap.size then (if o < vs.length then some (.box k) else none) else g.ω b o }
  have hω : ∀ b o, b < w.heap.size → g'.ω b o = g.ω b o := fun b o hb => by show (if b = w.heap.size then _ else _) = _; rw [if_neg (by omega)]
  have hs := fun x => h.sameNew (.cells vs.toArray t) hω x
  have hne : ∀ q, g.lb q → q ≠ k := fun q hl e => hnl (e ▸ hl)
  have hg : GLe g s.ob w g' s.ob (w.alloc (.cells vs.toArray t)) :=
    ⟨(hs .st).keeps, fun q hl => ⟨.inl hl, by show (if q = k then _ else _) = _; rw [if_neg (hne q hl)]⟩, fun q o hq => ⟨o, hq, Nat.le_refl _, fun _ => ⟨rfl, rfl, rfl⟩⟩⟩
  have hbk : g'.β k = w.heap.size := by show (if k = k then _ else _) = _; rw [if_pos rfl]
  have hklt : k < s.bx.length := (List.getElem?_eq_some_iff.1 hk).1
  refine ⟨g', ?_, ⟨.inr rfl, by rw [hbk]⟩⟩
  refine { ext := h.ext.later hext, tms := h.tms.imp fun _ _ => AVRel.mono hg, bxs := ?_, lbs := ?_, obs := fun q o hq => (h.obs q o hq).keep hg.st (hs _) rfl, own := ?_, dfr := h.dfr, fix := fun q hq hl => ?_, bas := h.bas }
  · intro q fz cells hc
    have hc' : (s.bx.set k (some (false, cs)))[q]? = some (some (fz, cells)) := hc
    by_cases e : q = k
    · subst e
      rw [List.getElem?_set_self hklt] at hc'
      simp at hc'; obtain ⟨rfl, rfl⟩ := hc'
      refine ⟨.inr rfl, vs, hr.imp fun _ _ => CRel.mono hg, fun i v hv => ?_⟩
      rw [hbk]
      refine ⟨cell_new w vs t i v hv, fun _ => ⟨by simp, ?_⟩, by simp⟩
      show (if w.heap.size = w.heap.size then _ else _) = _
      rw [if_pos rfl, if_pos (List.getElem?_eq_some_iff.1 hv).1]
    · rw [List.getElem?_set_ne (Ne.symm e)] at hc'
      obtain ⟨hl, hb⟩ := h.bxs q fz cells hc'
      exact ⟨.inl hl, hb.keep hl hg (hs _)⟩
  · intro q hl
    show ∃ c, (s.bx.set k (some (false, cs)))[q]? = some (some c)
    by_cases e : q = k
    · subst e; exact ⟨_, List.getElem?_set_self hklt⟩
    · rcases hl with hl | hl
      · obtain ⟨c, hc⟩ := h.lbs q hl
        exact ⟨c, by rw [List.getElem?_set_ne (Ne.symm e)]; exact hc⟩
      · exact (e hl).elim
  · intro b o x hx
    rcases Nat.lt_or_ge b w.heap.size with hb | hb
    · rw [hω b o hb] at hx
      exact ⟨Nat.lt_of_lt_of_le hb hext.le, (h.own b o x hx).2⟩
    · have hx' : (if b = w.heap.size then (if o < vs.length then some (Own.box k) else none) else g.ω b o) = some x := hx
      by_cases e : b = w.heap.size
      · exact ⟨by simp; omega, .inl (by have := h.ext.size; omega)⟩
      · rw [if_neg e] at hx'
        have := (h.own b o x hx').1; omega
  · have hne' : q ≠ k := by have := h.bas; omega
    show (if q = k then w.heap.size else g.β q) = fr.β q
    rw [if_neg hne']
    rcases hl with hl | hl
    · exact h.fix q hq hl
    · exact (hne' hl).elim
theorem All2.splice {α β : Type} {R : α → β → Prop} {l l' : List α} {r r' : List β} (h : All2 R l r) (h' : All2 R l' r') (off : Nat) :
    All2 R (l.take off ++ l' ++ l.drop (off + l'.length)) (r.take off ++ r' ++ r.drop (off + r'.length)) := by
  rw [h'.length]
  exact ((h.take off).append h').append (h.drop _)
theorem splice_get {α : Type} (l l' : List α) (off i : Nat) (v : α) (hl : off + l'.length ≤ l.length) (h : (l.take off ++ l' ++ l.drop (off + l'.length))[i]? = some v) :
    (off ≤ i ∧ i < off + l'.length ∧ l'[i - off]? = some v) ∨ ((i < off ∨ off + l'.length ≤ i) ∧ l[i]? = some v) := by
  have ht : (l.take off).length = off := by simp; omega
  rcases Nat.lt_or_ge i off with h1 | h1
  · right
    refine ⟨.inl h1, ?_⟩
    rw [List.append_assoc, List.getElem?_append_left (by omega), List.getElem?_take_of_lt h1] at h
    exact h
  · rcases Nat.lt_or_ge i (off + l'.length) with h2 | h2
    · left
      rw [List.append_assoc, List.getElem?_append_right (by omega), ht, List.getElem?_append_left (by omega)] at h
      exact ⟨h1, h2, h⟩
    · right
      refine ⟨.inr h2, ?_⟩
      rw [List.getElem?_append_right (by simp; omega), List.getElem?_drop] at h
      simp only [List.length_append, ht] at h
      rw [show off + l'.length + (i - (off + l'.length)) = i from by omega] at h
      exact h
theorem same_stored {g : G} {w w' : World} {b off : Nat} {vs : List Value} (hst : Stored w w' b off vs) {y : Own} (hy : ∀ (i : Nat), i < vs.length → g.ω b (off + i) = some y) {x : Own} (hne : x ≠ y) : Same g w g w' x := by
  intro b' o hx
  refine ⟨hx, hst.other _ ?_, hst.frozen _⟩
  by_cases e : b' = b
  · subst e
    by_cases h1 : o < off
    · exact .inl h1
    · by_cases h2 : off + vs.length ≤ o
      · exact .inr (.inl h2)
      · have := hy (o - off) (by omega)
        rw [show off + (o - off) = o from by omega, hx] at this
        simp at this; exact (hne this).elim
  · exact .inr (.inr e)
theorem Sim.store (h : Sim P E fr g s a w) {k off : Nat} {cells cs : List (C U)} {vs : List Value} {w' : World} (hk : s.bx[k]? = some (some (false, cells))) (hlen : off + cs.length ≤ cells.length)
    (hr : All2 (CRel P E g s.ob w) vs cs) (hst : Stored w w' (g.β k) off vs) : Sim P E fr g { s with bx := s.bx.set k (some (false, cells.take off ++ cs ++ cells.drop (off + cs.length))) } a w' := by
  obtain ⟨hl, vs0, h1, h2⟩ := h.bxs k false cells hk
  have hvl := hr.length
  have hv0 := h1.length
  have hy : ∀ (i : Nat), i < vs.length → g.ω (g.β k) (off + i) = some (.box k) := fun i hi => by
    have hlt : off + i < vs0.length := by omega
    exact ((h2 _ _ (List.getElem?_eq_getElem hlt)).2.1 rfl).2
  have hs := fun x (hne : x ≠ Own.box k) => same_stored hst hy hne
  have hg : GLe g s.ob w g s.ob w' := { GLe.refl g s.ob w with st := (hs .st (by simp)).keeps }
  have hklt : k < s.bx.length := (List.getElem?_eq_some_iff.1 hk).1
  refine { ext := h.ext.stored hst (fun i hi => h.wr (hy i hi) (by simp)), tms := h.tms.imp fun _ _ => AVRel.mono hg, bxs := ?_, lbs := ?_, obs := fun q o hq => (h.obs q o hq).keep hg.st (hs _ (by simp)) rfl, own := fun b o x hx => by rw [hst.size]; exact h.own b o x hx, dfr := h.dfr, fix := h.fix, bas := h.bas }
  · intro q fz cells' hc
    have hc' : (s.bx.set k (some (false, cells.take off ++ cs ++ cells.drop (off + cs.length))))[q]? = some (some (fz, cells')) := hc
    by_cases e : q = k
    · subst e
      rw [List.getElem?_set_self hklt] at hc'
      simp at hc'; obtain ⟨rfl, rfl⟩ := hc'
      refine ⟨hl, vs0.take off ++ vs ++ vs0.drop (off + vs.length), ?_, fun i u hu => ?_⟩
      · have := (h1.splice hr off).imp fun _ _ => CRel.mono hg
        simpa [List.append_assoc] using this
      · have hlt : i < vs0.length := by
          have := (List.getElem?_eq_some_iff.1 hu).1
          simp only [List.length_append, List.length_take, List.length_drop] at this; omega
        obtain ⟨i1, i2, _⟩ := h2 i _ (List.getElem?_eq_getElem hlt)
        rcases splice_get vs0 vs off i u (by omega) hu with ⟨g1, g2, g3⟩ | ⟨g1, g2⟩
        · have := hst.cell (i - off) u g3
          rw [show off + (i - off) = i from by omega] at this
          exact ⟨this, fun _ => ⟨by rw [hst.frozen]; exact (i2 rfl).1, (i2 rfl).2⟩, by simp⟩
        · exact ⟨by rw [hst.other _ (by rcases g1 with g1 | g1; exact .inl g1; exact .inr (.inl g1))]; exact (h2 i u g2).1, fun _ => ⟨by rw [hst.frozen]; exact (i2 rfl).1, (i2 rfl).2⟩, by simp⟩
    · rw [List.getElem?_set_ne (Ne.symm e)] at hc'
      obtain ⟨hl', hb⟩ := h.bxs q fz cells' hc'
      exact ⟨hl', hb.keep hl' hg (hs _ (by simpa using e))⟩
  · intro q hl'
    obtain ⟨c, hc⟩ := h.lbs q hl'
    show ∃ c, (s.bx.set k _)[q]? = some (some c)
    by_cases e : q = k
    · subst e; exact ⟨_, List.getElem?_set_self hklt⟩
    · exact ⟨c, by rw [List.getElem?_set_ne (Ne.symm e)]; exact hc⟩
open Classical in
theorem Sim.frz1 (h : Sim P E fr g s a w) {k : Nat} {o : Ob U} (hk : s.ob[k]? = some (some o)) :
    ∃ g', Sim P E fr g' { s with ob := s.ob.set k (some { o with fr := none }) } a w ∧ GLe g s.ob w g' (s.ob.set k (some { o with fr := none })) w := by
  let g' : G := { g with ω := fun b i => if g.ω b i = some (.obj k) ∧ ∃ off, (g.tk k).1 = some ⟨b, off, none⟩ ∧ off ≤ i ∧ i < off + o.xs.length * U.sz o.τ then some .st else g.ω b i }
  have hω : ∀ b i x, x ≠ .obj k → g.ω b i = some x → g'.ω b i = some x := fun b i x hne hx => by
    show (if _ then _ else _) = _
    rw [if_neg (by rintro ⟨h1, _⟩; rw [hx] at h1; simp at h1; exact hne h1)]; exact hx
  have hs : ∀ x, x ≠ .obj k → Same g w g' w x := fun x hne b i hx => ⟨hω b i x hne hx, rfl, rfl⟩
  have hklt : k < s.ob.length := (List.getElem?_eq_some_iff.1 hk).1
  have hg : GLe g s.ob w g' (s.ob.set k (some { o with fr := none })) w := by
    refine ⟨(hs .st (by simp)).keeps, fun q hl => ⟨hl, rfl⟩, fun q o' hq => ?_⟩
    by_cases e : q = k
    · subst e
      rw [hk] at hq; simp at hq; subst hq
      exact ⟨_, List.getElem?_set_self hklt, Nat.le_refl _, fun _ => ⟨rfl, rfl, rfl⟩⟩
    · exact ⟨o', by rw [List.getElem?_set_ne (Ne.symm e)]; exact hq, Nat.le_refl _, fun _ => ⟨rfl, rfl, rfl⟩⟩
  refine ⟨g', ?_, hg⟩
  refine { ext := h.ext, tms := h.tms.imp fun _ _ => AVRel.mono hg, bxs := fun q fz cells hc => ?_, lbs := h.lbs, obs := ?_, own := ?_, dfr := h.dfr, fix := h.fix, bas := h.bas }
  · obtain ⟨hl, hb⟩ := h.bxs q fz cells hc
    exact ⟨hl, hb.keep hl hg (hs _ (by simp))⟩
  · intro q o' hq
    have hq' : (s.ob.set k (some { o with fr := none }))[q]? = some (some o') := hq
    by_cases e : q = k
    · subst e
      rw [List.getElem?_set_self hklt] at hq'
      simp at hq'; subst hq'
      obtain ⟨⟨h1, _⟩, h2⟩ := h.obs q o hk
      refine ⟨⟨h1, by simp⟩, fun hc => ?_⟩
      obtain ⟨b, off, cv, e, hA⟩ := h2 hc
      refine ⟨b, off, cv, e, ⟨fun i j hi hj => ?_, fun i hi j d hd => (hA.rel i hi j d hd).mono hg.st, fun hl x hx hx' => ?_⟩⟩
      · obtain ⟨c1, c2⟩ := hA.cell i j hi hj
        refine ⟨c1, ?_⟩
        have hin : off + i * U.sz o.τ + j < off + o.xs.length * U.sz o.τ := by
          have : (i + 1) * U.sz o.τ ≤ o.xs.length * U.sz o.τ := Nat.mul_le_mul_right _ hi
          have hj' : j < U.sz o.τ := hj
          rw [Nat.add_mul] at this; omega
        have hst : g.ω b (off + i * U.sz o.τ + j) = some .st ∨ g.ω b (off + i * U.sz o.τ + j) = some (.obj q) := by
          unfold Mode at c2
          split at c2
          · exact .inl c2
          · rename_i f _
            rcases Nat.lt_or_ge i f with hlt | hge
            · exact .inl (c2.1 hlt)
            · exact .inr (c2.2 hge).1
        show g'.ω b _ = some .st
        rcases hst with hst | hst
        · exact hω _ _ _ (by simp) hst
        · show (if _ then _ else _) = _
          rw [if_pos ⟨hst, off, e, by omega, hin⟩]
      · obtain ⟨d1, d2, d3⟩ := hA.spare hl x hx hx'
        refine ⟨?_, d2, d3⟩
        show (if _ then _ else _) = _
        rw [if_neg ?_]
        · exact d1
        · rintro ⟨_, off', e', h1', h2'⟩
          rw [e] at e'; simp at e'; subst e'
          have : o.xs.length * U.sz o.τ ≤ x := hx
          omega
    · rw [List.getElem?_set_ne (Ne.symm e)] at hq'
      exact (h.obs q o' hq').keep hg.st (hs _ (by simpa using e)) rfl
  · intro b i x hx
    have hx' : (if g.ω b i = some (.obj k) ∧ ∃ off, (g.tk k).1 = some ⟨b, off, none⟩ ∧ off ≤ i ∧ i < off + o.xs.length * U.sz o.τ then some Own.st else g.ω b i) = some x := hx
    split at hx'
    · rename_i hc
      simp at hx'; subst hx'
      exact ⟨(h.own b i _ hc.1).1, (h.wr hc.1 (by simp)).elim .inl (fun hh => .inr (.inl hh))⟩
    · exact h.own b i x hx'
def FrzLe (ob ob' : List (Option (Ob U))) : Prop := ∀ k : Nat, (∀ o : Ob U, ob[k]? = some (some o) → ∃ o', ob'[k]? = some (some o') ∧ (o' = o ∨ o' = ({ o with fr := none } : Ob U))) ∧ ((∀ o : Ob U, ob[k]? ≠ some (some o)) → ob'[k]? = ob[k]?)
theorem FrzLe.refl (ob : List (Option (Ob U))) : FrzLe ob ob := fun _ => ⟨fun o h => ⟨o, h, .inl rfl⟩, fun _ => rfl⟩
theorem Sim.frzs {ob0 : List (Option (Ob U))} : ∀ (ks : List Nat) {g : G} {s : S U} {s0 : S U}, s0.ob = ob0 → Sim P E fr g s a w → FrzLe ob0 s.ob →
    ∃ g', Sim P E fr g' { s with ob := sets s.ob (s0.frz ks) } a w ∧ GLe g s.ob w g' (sets s.ob (s0.frz ks)) w ∧ FrzLe ob0 (sets s.ob (s0.frz ks)) ∧
      (∀ k, (k ∈ ks ∨ ∀ o, s.ob[k]? = some (some o) → o.fr = none) → ∀ o, (sets s.ob (s0.frz ks))[k]? = some (some o) → o.fr = none)
  | [], g, s, s0, _, h, hf => ⟨g, h, GLe.refl _ _ _, hf, fun k hk o ho => by
      rcases hk with hk | hk
      · simp at hk
      · exact hk o ho⟩
  | k :: ks, g, s, s0, h0, h, hf => by
    simp only [S.frz]
    cases hk : s0.ob[k]? with
    | none =>
      obtain ⟨g', h1, h2, h3, h4⟩ := Sim.frzs ks h0 h hf
      refine ⟨g', h1, h2, h3, fun q hq => h4 q ?_⟩
      rcases hq with hq | hq
      · rcases List.mem_cons.1 hq with rfl | hq
        · have := (hf q).2 (by rw [← h0, hk]; simp)
          exact .inr (fun o ho => by rw [this, ← h0, hk] at ho; simp at ho)
        · exact .inl hq
      · exact .inr hq
    | some x =>
      cases x with
      | none =>
        obtain ⟨g', h1, h2, h3, h4⟩ := Sim.frzs ks h0 h hf
        refine ⟨g', h1, h2, h3, fun q hq => h4 q ?_⟩
        rcases hq with hq | hq
        · rcases List.mem_cons.1 hq with rfl | hq
          · have := (hf q).2 (by rw [← h0, hk]; simp)
            exact .inr (fun o ho => by rw [this, ← h0, hk] at ho; simp at ho)
          · exact .inl hq
        · exact .inr hq
      | some o =>
        rw [h0] at hk
        obtain ⟨o', ho', hor⟩ := (hf k).1 o hk
        have he : ({ o with fr := none } : Ob U) = { o' with fr := none } := by rcases hor with rfl | rfl <;> rfl
        obtain ⟨g1, h1, hg1⟩ := h.frz1 ho'
        have hklt : k < s.ob.length := (List.getElem?_eq_some_iff.1 ho').1
        simp only [sets]
        rw [he]
        have hf1 : FrzLe ob0 (s.ob.set k (some { o' with fr := none })) := by
          intro q
          by_cases e : q = k
          · subst e
            refine ⟨fun o2 h2 => ?_, fun hn => (hn o hk).elim⟩
            rw [hk] at h2; simp at h2; subst h2
            exact ⟨_, List.getElem?_set_self hklt, .inr he.symm⟩
          · rw [List.getElem?_set_ne (Ne.symm e)]; exact hf q
        obtain ⟨g', i1, i2, i3, i4⟩ := Sim.frzs ks h0 h1 hf1
        refine ⟨g', i1, hg1.trans i2, i3, fun q hq => i4 q ?_⟩
        rcases hq with hq | hq
        · rcases List.mem_cons.1 hq with rfl | hq
          · right
            intro o2 h2
            have h2' : (s.ob.set q (some { o' with fr := none }))[q]? = some (some o2) := h2
            rw [List.getElem?_set_self hklt] at h2'
            simp at h2'; subst h2'; rfl
          · exact .inl hq
        · right
          intro o2 h2
          have h2' : (s.ob.set k (some { o' with fr := none }))[q]? = some (some o2) := h2
          by_cases e : q = k
          · subst e
            rw [List.getElem?_set_self hklt] at h2'
            simp at h2'; subst h2'; rfl
          · rw [List.getElem?_set_ne (Ne.symm e)] at h2'
            exact hq o2 h2'
theorem Sim.frozenV {s0 : S U} (h : Sim P E fr g s a w) (hf : FrzLe s0.ob s.ob) {v : Value} {c : C U} {d : V U} (hk : ∀ k ∈ c.obs, ∀ o, s.ob[k]? = some (some o) → o.fr = none) (hd : s0.toV c = some d) (hc : CRel P E g s.ob w v c) : VRel E g.St w v d := by
  cases c with
  | s x => simp [S.toV] at hd; subst hd; obtain ⟨rfl, h⟩ := hc; exact .s _ h
  | sl τ xs t => simp [S.toV] at hd; subst hd; exact hc.1
  | ob k ver =>
    simp only [S.toV] at hd
    split at hd
    · rename_i o ho
      simp at hd; subst hd
      obtain ⟨h1, h2⟩ := obAt_eq ho
      obtain ⟨o', h3, h4⟩ := (hf k).1 o h1
      obtain ⟨_, o2, h5, h6, h7⟩ := hc
      rw [h3] at h5; simp at h5; subst h5
      have hfr := hk k (by simp [C.obs]) o' h3
      have hrel := (h.obs k o' h3).data hfr
      have hver : ver = o'.ver := by rcases h4 with rfl | rfl <;> exact h2.symm
      rw [h7 hver]
      rcases h4 with rfl | rfl
      · exact hrel
      · exact hrel
    · simp at hd
  | _ => simp [S.toV] at hd
theorem Sim.frozenVs {s0 : S U} (h : Sim P E fr g s a w) (hf : FrzLe s0.ob s.ob) : ∀ {vs : List Value} {cs : List (C U)} {ds : List (V U)}, (∀ k ∈ Cs.obs cs, ∀ o, s.ob[k]? = some (some o) → o.fr = none) → s0.toVs cs = some ds → All2 (CRel P E g s.ob w) vs cs → All2 (VRel E g.St w) vs ds
  | [], [], ds, _, hd, _ => by simp [S.toVs] at hd; subst hd; trivial
  | v :: vs, c :: cs, ds, hk, hd, hr => by
    simp only [S.toVs] at hd
    split at hd
    · rename_i d r h1 h2
      simp at hd; subst hd
      exact ⟨h.frozenV hf (fun k hm => hk k (by simp [Cs.obs, hm])) h1 hr.1, h.frozenVs hf (fun k hm => hk k (by simp [Cs.obs, hm])) h2 hr.2⟩
    · simp at hd
end Go.Proofs.YtmpnompddfhkeaaGreat.B
namespace Go.Proofs.YtmpnompddfhkeaaGreat.B
open Go Go.RowKit
variable {U : Uni} {P : Program} {E : Enc U} {fr : Fr} {w : World} {g : G} {s : S U} {a : Act}
theorem ob_set_le {g g' : G} {ob : List (Option (Ob U))} {w w' : World} {q : Nat} {o : Ob U} (hq : q < ob.length) (hver : ∀ o0, ob[q]? = some (some o0) → o0.ver < o.ver) (hst : Keeps g.St w g'.St w') (hlb : ∀ k, g.lb k → g'.lb k ∧ g'.β k = g.β k)
    (htk : ∀ k, k ≠ q → g'.tk k = g.tk k) : GLe g ob w g' (ob.set q (some o)) w' := by
  refine ⟨hst, hlb, fun k o' hk => ?_⟩
  by_cases e : k = q
  · subst e
    have := hver o' hk
    exact ⟨o, List.getElem?_set_self hq, by omega, fun e => by omega⟩
  · exact ⟨o', by rw [List.getElem?_set_ne (Ne.symm e)]; exact hk, Nat.le_refl _, fun _ => ⟨rfl, rfl, htk k e⟩⟩
theorem idx_lt {i j n z : Nat} (hi : i < n) (hj : j < z) : i * z + j < n * z := by
  have : (i + 1) * z ≤ n * z := Nat.mul_le_mul_right _ hi
  rw [Nat.add_mul] at this; omega
theorem Sim.newObj (h : Sim P E fr g s a w) {q : Nat} {o : Ob U} (hq : q < s.ob.length) (hver : ∀ o0, s.ob[q]? = some (some o0) → o0.ver < o.ver) (t : TypeId) {arr : List Value} {cap f : Nat} (hfr : o.fr = some f) (hf : f ≤ o.xs.length) (hcap0 : o.xs.length ≤ cap ∧ o.xs.length ≤ 9223372036854775807)
    (harr : arr.length = cap * U.sz o.τ) (hrel : ∀ i (hi : i < o.xs.length) j d, (E.enc o.τ o.xs[i])[j]? = some d → ∃ u, arr[i * U.sz o.τ + j]? = some u ∧ VRel E g.St w u d) :
    ∃ g', Sim P E fr g' { s with ob := s.ob.set q (some o) } a (w.alloc (.cells arr.toArray t)) ∧
      CRel P E g' (s.ob.set q (some o)) (w.alloc (.cells arr.toArray t)) (.slice (some ⟨w.heap.size, 0, none⟩) o.xs.length cap) (.ob q o.ver) := by
  have hcap := hcap0.1
  have hext : Ext w (w.alloc (.cells arr.toArray t)) := (Ext.refl _).alloc _
  let g' : G := { g with ω := fun b i => if b = w.heap.size then (if i < f * U.sz o.τ then some .st else if i < arr.length then some (.obj q) else none) else g.ω b i, tk := fun k => if k = q then (some ⟨w.heap.size, 0, none⟩, cap) else g.tk k }
  have hω : ∀ b i, b < w.heap.size → g'.ω b i = g.ω b i := fun b i hb => by show (if b = w.heap.size then _ else _) = _; rw [if_neg (by omega)]
  have hωn : ∀ i, g'.ω w.heap.size i = if i < f * U.sz o.τ then some .st else if i < arr.length then some (.obj q) else none := fun i => by show (if w.heap.size = w.heap.size then _ else _) = _; rw [if_pos rfl]
  have hs := fun x => h.sameNew (.cells arr.toArray t) hω x
  have htq : g'.tk q = (some ⟨w.heap.size, 0, none⟩, cap) := by show (if q = q then _ else _) = _; rw [if_pos rfl]
  have htn : ∀ k, k ≠ q → g'.tk k = g.tk k := fun k e => by show (if k = q then _ else _) = _; rw [if_neg e]
  have hg : GLe g s.ob w g' (s.ob.set q (some o)) (w.alloc (.cells arr.toArray t)) := ob_set_le hq hver (hs .st).keeps (fun k hl => ⟨hl, rfl⟩) htn
  refine ⟨g', ?_, ⟨rfl, o, List.getElem?_set_self hq, Nat.le_refl _, fun _ => by rw [htq]⟩⟩
  refine { ext := h.ext.later hext, tms := h.tms.imp fun _ _ => AVRel.mono hg, bxs := fun k fz cells hk => ?_, lbs := h.lbs, obs := ?_, own := ?_, dfr := h.dfr, fix := h.fix, bas := h.bas }
  · obtain ⟨hl, hb⟩ := h.bxs k fz cells hk
    exact ⟨hl, hb.keep hl hg (hs _)⟩
  · intro k o' hk
    have hk' : (s.ob.set q (some o))[k]? = some (some o') := hk
    by_cases e : k = q
    · subst e
      rw [List.getElem?_set_self hq] at hk'
      simp at hk'; subst hk'
      refine ⟨⟨by rw [htq]; exact hcap0, fun f' hf' => by rw [hfr] at hf'; simp at hf'; omega⟩, fun _ => ⟨w.heap.size, 0, fun i j => arr.getD (i * U.sz o.τ + j) undef, by rw [htq], ⟨fun i j hi hj => ?_, fun i hi j d hd => ?_, fun hl x hx hx' => ?_⟩⟩⟩
      · have h1 : i * U.sz o.τ + j < cap * U.sz o.τ := idx_lt (Nat.lt_of_lt_of_le hi hcap) hj
        have hlt : i * U.sz o.τ + j < arr.length := by omega
        rw [Nat.zero_add]
        refine ⟨?_, ?_⟩
        · rw [List.getD_eq_getElem?_getD, List.getElem?_eq_getElem hlt]
          exact cell_new w arr t _ _ (List.getElem?_eq_getElem hlt)
        · unfold Mode
          rw [hfr]
          refine ⟨fun hif => ?_, fun hif => ⟨?_, by simp⟩⟩
          · show g'.ω _ _ = _
            rw [hωn, if_pos (idx_lt hif hj)]
          · have : f * U.sz o.τ ≤ i * U.sz o.τ := Nat.mul_le_mul_right _ hif
            rw [hωn, if_neg (by omega), if_pos hlt]
      · obtain ⟨u, hu, hr⟩ := hrel i hi j d hd
        rw [List.getD_eq_getElem?_getD, hu]
        exact hr.mono hg.st
      · rw [htq] at hx'
        have hx'' : x < cap * U.sz o.τ := hx'
        have hlt : x < arr.length := by omega
        have hx0 : o.xs.length * U.sz o.τ ≤ x := hx
        have : f * U.sz o.τ ≤ o.xs.length * U.sz o.τ := Nat.mul_le_mul_right _ hf
        rw [Nat.zero_add]
        exact ⟨by rw [hωn, if_neg (by omega), if_pos hlt], ⟨_, cell_new w arr t x _ (List.getElem?_eq_getElem hlt)⟩, by simp⟩
    · rw [List.getElem?_set_ne (Ne.symm e)] at hk'
      exact (h.obs k o' hk').keep hg.st (hs _) (htn k e)
  · intro b i x hx
    rcases Nat.lt_or_ge b w.heap.size with hb | hb
    · rw [hω b i hb] at hx
      exact ⟨Nat.lt_of_lt_of_le hb hext.le, (h.own b i x hx).2⟩
    · by_cases e : b = w.heap.size
      · exact ⟨by simp; omega, .inl (by have := h.ext.size; omega)⟩
      · have hx' : (if b = w.heap.size then (if i < f * U.sz o.τ then some Own.st else if i < arr.length then some (.obj q) else none) else g.ω b i) = some x := hx
        rw [if_neg e] at hx'
        have := (h.own b i x hx').1; omega
theorem spent_ver (o : Ob U) : o.ver ≤ o.spent.ver ∧ (o.ver = o.spent.ver → o.spent.xs.length = o.xs.length ∧ U.sz o.spent.τ = U.sz o.τ) := by
  unfold Ob.spent
  split
  · exact ⟨Nat.le_refl _, fun _ => ⟨rfl, rfl⟩⟩
  · refine ⟨Nat.le_succ _, fun e => ?_⟩
    have e' : o.ver = o.ver + 1 := e
    omega
theorem spent_rel {k : Nat} {o : Ob U} (h : ObRel E g w k o) : ObRel E g w k o.spent := by
  unfold Ob.spent
  split
  · rename_i hf
    obtain ⟨⟨h1, _⟩, h2⟩ := h
    refine ⟨⟨h1, by rw [hf]; simp⟩, fun hc => ?_⟩
    obtain ⟨b, off, cv, e, hA⟩ := h2 hc
    exact ⟨b, off, cv, e, ⟨hA.cell, hA.rel, by simp⟩⟩
  · refine ⟨⟨⟨Nat.zero_le _, Nat.zero_le _⟩, by simp⟩, fun hc => ?_⟩
    obtain ⟨b, off, cv, e, hA⟩ := h.2 hc
    exact ⟨b, off, cv, e, ⟨fun i j hi => absurd hi (Nat.not_lt_zero _), fun i hi => absurd hi (Nat.not_lt_zero _), by simp⟩⟩
theorem Sim.spend (h : Sim P E fr g s a w) {k : Nat} {o : Ob U} (hk : s.ob[k]? = some (some o)) : Sim P E fr g { s with ob := s.ob.set k (some o.spent) } a w ∧ GLe g s.ob w g (s.ob.set k (some o.spent)) w := by
  have hklt : k < s.ob.length := (List.getElem?_eq_some_iff.1 hk).1
  have hg : GLe g s.ob w g (s.ob.set k (some o.spent)) w := by
    refine ⟨Keeps.refl _ _, fun _ hl => ⟨hl, rfl⟩, fun q o' hq => ?_⟩
    by_cases e : q = k
    · subst e
      rw [hk] at hq; simp at hq; subst hq
      exact ⟨_, List.getElem?_set_self hklt, (spent_ver o).1, fun e => ⟨((spent_ver o).2 e).1, ((spent_ver o).2 e).2, rfl⟩⟩
    · exact ⟨o', by rw [List.getElem?_set_ne (Ne.symm e)]; exact hq, Nat.le_refl _, fun _ => ⟨rfl, rfl, rfl⟩⟩
  refine ⟨{ ext := h.ext, tms := h.tms.imp fun _ _ => AVRel.mono hg, bxs := fun q fz cells hc => ?_, lbs := h.lbs, obs := fun q o' hq => ?_, own := h.own, dfr := h.dfr, fix := h.fix, bas := h.bas }, hg⟩
  · obtain ⟨hl, hb⟩ := h.bxs q fz cells hc
    exact ⟨hl, hb.keep hl hg (fun b i hx => ⟨hx, rfl, rfl⟩)⟩
  · have hq' : (s.ob.set k (some o.spent))[q]? = some (some o') := hq
    by_cases e : q = k
    · subst e
      rw [List.getElem?_set_self hklt] at hq'
      simp at hq'; subst hq'
      exact spent_rel (h.obs q o hk)
    · rw [List.getElem?_set_ne (Ne.symm e)] at hq'
      exact h.obs q o' hq'
open Classical in
theorem Sim.appIn (h : Sim P E fr g s a w) {k q : Nat} {o : Ob U} {ver : Nat} {ys : List (U.Den o.τ)} (hz : 0 < U.sz o.τ) (hk : s.ob[k]? = some (some o)) (hlive : o.live = true) (hq : q < s.ob.length) (hver : ∀ o0, s.ob[q]? = some (some o0) → o0.ver < ver)
    (hroom : o.xs.length + ys.length ≤ (g.tk k).2) (hmx : o.xs.length + ys.length ≤ 9223372036854775807) {us : List Value} (hus : us.length = ys.length * U.sz o.τ) {w' : World} (hst : us = [] ∧ w' = w ∨ ∃ b off, (g.tk k).1 = some ⟨b, off, none⟩ ∧ Stored w w' b (off + o.xs.length * U.sz o.τ) us)
    (hrel : ∀ i (hi : i < ys.length) j d, (E.enc o.τ ys[i])[j]? = some d → ∃ u, us[i * U.sz o.τ + j]? = some u ∧ VRel E g.St w u d) :
    ∃ g', Sim P E fr g' { s with ob := (s.ob.set k (some o.spent)).set q (some ⟨ver, o.τ, o.xs ++ ys, some o.frozen, true⟩) } a w' ∧
      CRel P E g' ((s.ob.set k (some o.spent)).set q (some ⟨ver, o.τ, o.xs ++ ys, some o.frozen, true⟩)) w' (.slice (g.tk k).1 (o.xs.length + ys.length) (g.tk k).2) (.ob q ver) := by
  have hoR := h.obs k o hk
  have hklt : k < s.ob.length := (List.getElem?_eq_some_iff.1 hk).1
  let g' : G := { g with ω := fun b i => if g.ω b i = some (.obj k) then some (.obj q) else g.ω b i, tk := fun k' => if k' = q then g.tk k else g.tk k' }
  have htq : g'.tk q = g.tk k := by show (if q = q then _ else _) = _; rw [if_pos rfl]
  have htn : ∀ k', k' ≠ q → g'.tk k' = g.tk k' := fun k' e => by show (if k' = q then _ else _) = _; rw [if_neg e]
  have hwk : ∀ b i, g.ω b i = some (.obj k) → g'.ω b i = some (.obj q) := fun b i e => by show (if _ then _ else _) = _; rw [if_pos e]
  have hwn : ∀ b i x, x ≠ .obj k → g.ω b i = some x → g'.ω b i = some x := fun b i x hne e => by show (if _ then _ else _) = _; rw [if_neg (by rw [e]; simpa using hne)]; exact e
  have hfroz : o.frozen ≤ o.xs.length := by
    unfold Ob.frozen; split
    · exact Nat.le_refl _
    · rename_i f hf; exact hoR.1.2 f hf
  have hw : (∀ x, x ≠ Own.obj k → Same g w g w' x) ∧ FExt fr w' ∧ w'.heap.size = w.heap.size ∧ (∀ p : Addr, stuck w' p = stuck w p) := by
    rcases hst with ⟨_, rfl⟩ | ⟨b, off, e, hst⟩
    · exact ⟨fun x _ b i hx => ⟨hx, rfl, rfl⟩, h.ext, rfl, fun _ => rfl⟩
    · have hy : ∀ (i : Nat), i < us.length → g.ω b (off + o.xs.length * U.sz o.τ + i) = some (.obj k) := fun i hi => by
        have h1 : (o.xs.length + ys.length) * U.sz o.τ ≤ (g.tk k).2 * U.sz o.τ := Nat.mul_le_mul_right _ hroom
        rw [Nat.add_mul] at h1
        obtain ⟨b', off', cv, e', hA⟩ := hoR.2 (by
          rcases Nat.eq_zero_or_pos (g.tk k).2 with h0 | h0
          · rw [h0] at h1; simp at h1; omega
          · exact h0)
        rw [e] at e'; simp at e'; obtain ⟨rfl, rfl⟩ := e'
        have := (hA.spare hlive (o.xs.length * U.sz o.τ + i) (by omega) (by omega)).1
        rw [Nat.add_assoc]; exact this
      exact ⟨fun x hne => same_stored hst hy hne, h.ext.stored hst (fun i hi => h.wr (hy i hi) (by simp)), hst.size, hst.frozen⟩
  obtain ⟨hsame, hext, hsize, hfrozen⟩ := hw
  have hs : ∀ x, x ≠ Own.obj k → Same g w g' w' x := fun x hne b i hx => ⟨hwn b i x hne hx, (hsame x hne b i hx).2⟩
  have hst' : Keeps g.St w g'.St w' := (hs .st (by simp)).keeps
  have hg1 : GLe g s.ob w g' ((s.ob.set k (some o.spent)).set q (some ⟨ver, o.τ, o.xs ++ ys, some o.frozen, true⟩)) w' := by
    refine ⟨hst', fun _ hl => ⟨hl, rfl⟩, fun k' o' hk' => ?_⟩
    by_cases e : k' = q
    · subst e
      have := hver o' hk'
      exact ⟨_, List.getElem?_set_self (by simpa using hq), by show _ ≤ ver; omega, fun e => by have e' : o'.ver = ver := e; omega⟩
    · rw [List.getElem?_set_ne (Ne.symm e)]
      by_cases e2 : k' = k
      · subst e2
        rw [hk] at hk'; simp at hk'; subst hk'
        exact ⟨_, List.getElem?_set_self hklt, (spent_ver o).1, fun e => ⟨((spent_ver o).2 e).1, ((spent_ver o).2 e).2, htn _ (by assumption)⟩⟩
      · rw [List.getElem?_set_ne (Ne.symm e2)]
        exact ⟨o', hk', Nat.le_refl _, fun _ => ⟨rfl, rfl, htn _ e⟩⟩
  refine ⟨g', ?_, ⟨rfl, _, List.getElem?_set_self (by simpa using hq), Nat.le_refl _, fun _ => by rw [htq]; simp⟩⟩
  refine { ext := hext, tms := h.tms.imp fun _ _ => AVRel.mono hg1, bxs := fun k' fz cells hc => ?_, lbs := h.lbs, obs := ?_, own := ?_, dfr := h.dfr, fix := h.fix, bas := h.bas }
  · obtain ⟨hl, hb⟩ := h.bxs k' fz cells hc
    exact ⟨hl, hb.keep hl hg1 (hs _ (by simp))⟩
  · intro k' o' hk'
    have hk2 : ((s.ob.set k (some o.spent)).set q (some ⟨ver, o.τ, o.xs ++ ys, some o.frozen, true⟩))[k']? = some (some o') := hk'
    by_cases e : k' = q
    · subst e
      rw [List.getElem?_set_self (by simpa using hq)] at hk2
      simp at hk2; subst hk2
      refine ⟨⟨by rw [htq]; simpa using ⟨hroom, hmx⟩, fun f hf => by simp at hf; subst hf; simp; omega⟩, fun hc => ?_⟩
      rw [htq] at hc ⊢
      obtain ⟨b, off, cv, e, hA⟩ := hoR.2 hc
      refine ⟨b, off, fun i j => if i < o.xs.length then cv i j else us.getD ((i - o.xs.length) * U.sz o.τ + j) undef, e, ⟨fun i j hi hj => ?_, fun i hi j d hd => ?_, fun hl x hx hx' => ?_⟩⟩
      · have hj' : j < U.sz o.τ := hj
        have hi' : i < o.xs.length + ys.length := by simpa using hi
        rcases Nat.lt_or_ge i o.xs.length with hlt | hge
        · obtain ⟨c1, c2⟩ := hA.cell i j hlt hj'
          simp only [if_pos hlt]
          unfold Mode at c2 ⊢
          have hcase : (g.St b (off + i * U.sz o.τ + j) ∧ i < o.frozen) ∨ (o.frozen ≤ i ∧ g.ω b (off + i * U.sz o.τ + j) = some (.obj k) ∧ stuck w ⟨b, off + i * U.sz o.τ + j, none⟩ = false) := by
            split at c2
            · rename_i hf
              have hz : o.frozen = o.xs.length := by unfold Ob.frozen; rw [hf]
              exact .inl ⟨c2, by rw [hz]; exact hlt⟩
            · rename_i f hf
              have hz : o.frozen = f := by unfold Ob.frozen; rw [hf]
              rw [hz]
              rcases Nat.lt_or_ge i f with h1 | h1
              · exact .inl ⟨c2.1 h1, h1⟩
              · exact .inr ⟨h1, c2.2 h1⟩
          rcases hcase with ⟨h1, h2⟩ | ⟨h1, h2, h3⟩
          · obtain ⟨k1, k2⟩ := hst' _ _ h1
            exact ⟨by rw [k2]; exact c1, fun _ => k1, fun hh => by have hh' : o.frozen ≤ i := hh; omega⟩
          · have hcell : w'.cell? ⟨b, off + i * U.sz o.τ + j, none⟩ = w.cell? ⟨b, off + i * U.sz o.τ + j, none⟩ := by
              rcases hst with ⟨_, rfl⟩ | ⟨b', off', e', hst⟩
              · rfl
              · rw [e] at e'; simp at e'; obtain ⟨rfl, rfl⟩ := e'
                exact hst.other _ (.inl (by have := idx_lt hlt hj'; show off + i * U.sz o.τ + j < _; omega))
            exact ⟨by rw [hcell]; exact c1, fun hh => by have hh' : i < o.frozen := hh; omega, fun _ => ⟨hwk _ _ h2, by rw [hfrozen]; exact h3⟩⟩
        · have hn : ¬ i < o.xs.length := by omega
          simp only [if_neg hn]
          have hidx : (i - o.xs.length) * U.sz o.τ + j < us.length := by rw [hus]; exact idx_lt (by omega) hj'
          have hsplit : i * U.sz o.τ = o.xs.length * U.sz o.τ + (i - o.xs.length) * U.sz o.τ := by rw [← Nat.add_mul]; congr 1; omega
          have hlt2 : i * U.sz o.τ + j < (g.tk k).2 * U.sz o.τ := idx_lt (by omega) hj'
          obtain ⟨d1, _, d3⟩ := hA.spare hlive (i * U.sz o.τ + j) (by omega) hlt2
          rw [← Nat.add_assoc] at d1 d3
          refine ⟨?_, ?_⟩
          · rcases hst with ⟨hnil, _⟩ | ⟨b', off', e', hst⟩
            · rw [hnil] at hidx; simp at hidx
            · rw [e] at e'; simp at e'; obtain ⟨rfl, rfl⟩ := e'
              have := hst.cell _ _ (List.getElem?_eq_getElem hidx)
              rw [List.getD_eq_getElem?_getD, List.getElem?_eq_getElem hidx]
              have e2 : off + o.xs.length * U.sz o.τ + ((i - o.xs.length) * U.sz o.τ + j) = off + i * U.sz o.τ + j := by omega
              rw [e2] at this; exact this
          · unfold Mode
            exact ⟨fun hh => by have hh' : i < o.frozen := hh; omega, fun _ => ⟨hwk _ _ d1, by rw [hfrozen]; exact d3⟩⟩
      · rcases Nat.lt_or_ge i o.xs.length with hlt | hge
        · have hd' : (E.enc o.τ o.xs[i])[j]? = some d := by
            have : (o.xs ++ ys)[i] = o.xs[i] := List.getElem_append_left hlt
            rw [← this]; exact hd
          simp only [if_pos hlt]
          exact (hA.rel i hlt j d hd').mono hst'
        · have hn : ¬ i < o.xs.length := by omega
          have hi2 : i - o.xs.length < ys.length := by have : i < (o.xs ++ ys).length := hi; simp at this; omega
          have hd' : (E.enc o.τ ys[i - o.xs.length])[j]? = some d := by
            have : (o.xs ++ ys)[i] = ys[i - o.xs.length] := List.getElem_append_right hge
            rw [← this]; exact hd
          obtain ⟨u, hu, hr⟩ := hrel _ hi2 j d hd'
          simp only [if_neg hn]
          rw [List.getD_eq_getElem?_getD, hu]
          exact hr.mono hst'
      · have hx0 : (o.xs ++ ys).length * U.sz o.τ ≤ x := hx
        rw [List.length_append, Nat.add_mul] at hx0
        obtain ⟨d1, ⟨v, d2⟩, d3⟩ := hA.spare hlive x (by omega) hx'
        refine ⟨hwk _ _ d1, ⟨v, ?_⟩, by rw [hfrozen]; exact d3⟩
        rcases hst with ⟨_, rfl⟩ | ⟨b', off', e', hst⟩
        · exact d2
        · rw [e] at e'; simp at e'; obtain ⟨rfl, rfl⟩ := e'
          rw [hst.other _ (.inr (.inl (by show off + o.xs.length * U.sz o.τ + us.length ≤ off + x; omega)))]; exact d2
    · rw [List.getElem?_set_ne (Ne.symm e)] at hk2
      by_cases e2 : k' = k
      · subst e2
        rw [List.getElem?_set_self hklt] at hk2
        simp at hk2; subst hk2
        obtain ⟨⟨i1, i2⟩, i3⟩ := spent_rel hoR
        refine ⟨⟨by rw [htn _ e]; exact i1, i2⟩, fun hc => ?_⟩
        rw [htn _ e] at hc ⊢
        obtain ⟨b, off, cv, e', hA⟩ := i3 hc
        refine ⟨b, off, cv, e', ⟨fun i j hi hj => ?_, fun i hi j d hd => (hA.rel i hi j d hd).mono hst', fun hl => ?_⟩⟩
        · obtain ⟨c1, c2⟩ := hA.cell i j hi hj
          unfold Mode at c2 ⊢
          have hsf : o.spent.fr = none := by unfold Ob.spent; split <;> first | rfl | assumption
          simp only [hsf] at c2 ⊢
          obtain ⟨k1, k2⟩ := hst' _ _ c2
          exact ⟨by rw [k2]; exact c1, k1⟩
        · have hsl : o.spent.live = false := by unfold Ob.spent; split <;> rfl
          rw [hsl] at hl; simp at hl
      · rw [List.getElem?_set_ne (Ne.symm e2)] at hk2
        exact (h.obs k' o' hk2).keep hst' (hs _ (by simpa using e2)) (htn _ e)
  · intro b i x hx
    rw [hsize]
    have hx' : (if g.ω b i = some (.obj k) then some (Own.obj q) else g.ω b i) = some x := hx
    split at hx'
    · rename_i hc
      exact ⟨(h.own b i _ hc).1, (h.wr hc (by simp)).elim .inl (fun hh => .inr (.inl hh))⟩
    · exact h.own b i x hx'
theorem Sim.storeObj (h : Sim P E fr g s a w) {k i off f b off0 : Nat} {o : Ob U} {y : U.Den o.τ} {us : List Value} {vs : List (V U)} {w' : World} (hk : s.ob[k]? = some (some o)) (hfr : o.fr = some f) (hfi : f ≤ i) (hi : i < o.xs.length) (htk : (g.tk k).1 = some ⟨b, off0, none⟩)
    (hst : Stored w w' b (off0 + i * U.sz o.τ + off) us) (hlen : off + vs.length ≤ U.sz o.τ) (hrel : All2 (VRel E g.St w) us vs) (hy : E.enc o.τ y = (E.enc o.τ o.xs[i]).take off ++ vs ++ (E.enc o.τ o.xs[i]).drop (off + vs.length)) :
    Sim P E fr g { s with ob := s.ob.set k (some { o with xs := o.xs.set i y }) } a w' := by
  have hklt : k < s.ob.length := (List.getElem?_eq_some_iff.1 hk).1
  have hoR := h.obs k o hk
  obtain ⟨b', off', cv, e', hA⟩ := hoR.2 (by have := hoR.1.1; omega)
  rw [htk] at e'; simp at e'; obtain ⟨rfl, rfl⟩ := e'
  have hul := hrel.length
  have hyω : ∀ (j : Nat), j < us.length → g.ω b (off0 + i * U.sz o.τ + off + j) = some (.obj k) := fun j hj => by
    have := (hA.cell i (off + j) hi (by omega)).2
    unfold Mode at this; rw [hfr] at this
    have := (this.2 hfi).1
    rw [← Nat.add_assoc] at this; exact this
  have hs : ∀ x, x ≠ Own.obj k → Same g w g w' x := fun x hne => same_stored hst hyω hne
  have hst' : Keeps g.St w g.St w' := (hs .st (by simp)).keeps
  have hg : GLe g s.ob w g (s.ob.set k (some { o with xs := o.xs.set i y })) w' := by
    refine ⟨hst', fun _ hl => ⟨hl, rfl⟩, fun q o' hq => ?_⟩
    by_cases e : q = k
    · subst e
      rw [hk] at hq; simp at hq; subst hq
      exact ⟨_, List.getElem?_set_self hklt, Nat.le_refl _, fun _ => ⟨by simp, rfl, rfl⟩⟩
    · exact ⟨o', by rw [List.getElem?_set_ne (Ne.symm e)]; exact hq, Nat.le_refl _, fun _ => ⟨rfl, rfl, rfl⟩⟩
  refine { ext := h.ext.stored hst (fun j hj => h.wr (hyω j hj) (by simp)), tms := h.tms.imp fun _ _ => AVRel.mono hg, bxs := fun q fz cells hc => ?_, lbs := h.lbs, obs := ?_, own := fun b o x hx => by rw [hst.size]; exact h.own b o x hx, dfr := h.dfr, fix := h.fix, bas := h.bas }
  · obtain ⟨hl, hb⟩ := h.bxs q fz cells hc
    exact ⟨hl, hb.keep hl hg (hs _ (by simp))⟩
  · intro q o' hq
    have hq' : (s.ob.set k (some { o with xs := o.xs.set i y }))[q]? = some (some o') := hq
    by_cases e : q = k
    · subst e
      rw [List.getElem?_set_self hklt] at hq'
      simp at hq'; subst hq'
      refine ⟨⟨by simpa using hoR.1.1, fun f' hf' => by simpa using hoR.1.2 f' hf'⟩, fun hc => ⟨b, off0, fun i' j => if i' = i ∧ off ≤ j ∧ j < off + us.length then us.getD (j - off) undef else cv i' j, htk, ⟨fun i' j hi' hj => ?_, fun i' hi' j d hd => ?_, fun hl x hx hx' => ?_⟩⟩⟩
      · have hi2 : i' < o.xs.length := by simpa using hi'
        have hj2 : j < U.sz o.τ := hj
        obtain ⟨c1, c2⟩ := hA.cell i' j hi2 hj2
        have hmode : Mode g w' q o.fr i' b (off0 + i' * U.sz o.τ + j) := by
          unfold Mode at c2 ⊢
          rw [hfr] at c2 ⊢
          exact ⟨c2.1, fun hh => ⟨(c2.2 hh).1, by rw [hst.frozen]; exact (c2.2 hh).2⟩⟩
        refine ⟨?_, hmode⟩
        by_cases hin : i' = i ∧ off ≤ j ∧ j < off + us.length
        · obtain ⟨rfl, h1, h2⟩ := hin
          rw [if_pos (show i' = i' ∧ off ≤ j ∧ j < off + us.length from ⟨rfl, h1, h2⟩)]
          have hlt : j - off < us.length := by omega
          have := hst.cell _ _ (List.getElem?_eq_getElem hlt)
          rw [List.getD_eq_getElem?_getD, List.getElem?_eq_getElem hlt]
          rw [show off0 + i' * U.sz o.τ + off + (j - off) = off0 + i' * U.sz o.τ + j from by omega] at this
          exact this
        · rw [if_neg hin]
          rw [hst.other _ ?_]
          · exact c1
          · show off0 + i' * U.sz o.τ + j < off0 + i * U.sz o.τ + off ∨ off0 + i * U.sz o.τ + off + us.length ≤ off0 + i' * U.sz o.τ + j ∨ b ≠ b
            rcases Nat.lt_trichotomy i' i with hlt | rfl | hgt
            · have h1 : (i' + 1) * U.sz o.τ ≤ i * U.sz o.τ := Nat.mul_le_mul_right _ hlt
              rw [Nat.add_mul] at h1
              exact .inl (by omega)
            · by_cases h1 : off ≤ j
              · by_cases h2 : j < off + us.length
                · exact (hin ⟨rfl, h1, h2⟩).elim
                · exact .inr (.inl (by omega))
              · exact .inl (by omega)
            · have h1 : (i + 1) * U.sz o.τ ≤ i' * U.sz o.τ := Nat.mul_le_mul_right _ hgt
              rw [Nat.add_mul] at h1
              exact .inr (.inl (by omega))
      · have hi2 : i' < o.xs.length := by simpa using hi'
        by_cases hii : i' = i
        · subst hii
          have hd' : (E.enc o.τ y)[j]? = some d := by
            have : (o.xs.set i' y)[i']'(by simpa using hi2) = y := List.getElem_set_self _
            rw [← this]; exact hd
          rw [hy] at hd'
          have hEl := E.len o.τ o.xs[i']
          rcases splice_get _ vs off j d (by omega) hd' with ⟨g1, g2, g3⟩ | ⟨g1, g2⟩
          · rw [if_pos ⟨rfl, g1, by omega⟩]
            obtain ⟨u, hu, hr⟩ := hrel.get _ g3
            rw [List.getD_eq_getElem?_getD, hu]
            exact hr.mono hst'
          · rw [if_neg (by rintro ⟨_, h1, h2⟩; omega)]
            exact (hA.rel i' hi2 j d g2).mono hst'
        · have hd' : (E.enc o.τ o.xs[i'])[j]? = some d := by
            have : (o.xs.set i y)[i']'(by simpa using hi2) = o.xs[i'] := List.getElem_set_ne (Ne.symm hii) _
            rw [← this]; exact hd
          rw [if_neg (by rintro ⟨h1, _⟩; exact hii h1)]
          exact (hA.rel i' hi2 j d hd').mono hst'
      · have hx0 : o.xs.length * U.sz o.τ ≤ x := by simpa using hx
        obtain ⟨d1, ⟨v, d2⟩, d3⟩ := hA.spare hl x hx0 hx'
        refine ⟨d1, ⟨v, ?_⟩, by rw [hst.frozen]; exact d3⟩
        rw [hst.other _ (.inr (.inl ?_))]
        · exact d2
        · show off0 + i * U.sz o.τ + off + us.length ≤ off0 + x
          have h1 : (i + 1) * U.sz o.τ ≤ o.xs.length * U.sz o.τ := Nat.mul_le_mul_right _ hi
          rw [Nat.add_mul] at h1
          omega
    · rw [List.getElem?_set_ne (Ne.symm e)] at hq'
      exact (h.obs q o' hq').keep hst' (hs _ (by simpa using e)) rfl
end Go.Proofs.YtmpnompddfhkeaaGreat.B
namespace Go.Proofs.YtmpnompddfhkeaaGreat.B
open Go Go.RowKit
variable {U : Uni} {P : Program} {E : Enc U} {fr : Fr} {w : World} {g : G} {s : S U} {a : Act}
open Classical in
theorem Sim.frzBox (h : Sim P E fr g s a w) {k : Nat} {fz : Bool} {cells : List (C U)} (hk : s.bx[k]? = some (some (fz, cells))) :
    ∃ g', Sim P E fr g' { s with bx := s.bx.set k (some (true, cells)) } a w ∧ GLe g s.ob w g' s.ob w := by
  let g' : G := { g with ω := fun b i => if g.ω b i = some (.box k) then some .st else g.ω b i }
  have hω : ∀ b i x, x ≠ .box k → g.ω b i = some x → g'.ω b i = some x := fun b i x hne hx => by
    show (if _ then _ else _) = _
    rw [if_neg (by rw [hx]; simpa using hne)]; exact hx
  have hs : ∀ x, x ≠ .box k → Same g w g' w x := fun x hne b i hx => ⟨hω b i x hne hx, rfl, rfl⟩
  have hklt : k < s.bx.length := (List.getElem?_eq_some_iff.1 hk).1
  have hg : GLe g s.ob w g' s.ob w := ⟨(hs .st (by simp)).keeps, fun q hl => ⟨hl, rfl⟩, fun q o hq => ⟨o, hq, Nat.le_refl _, fun _ => ⟨rfl, rfl, rfl⟩⟩⟩
  refine ⟨g', ?_, hg⟩
  refine { ext := h.ext, tms := h.tms.imp fun _ _ => AVRel.mono hg, bxs := ?_, lbs := ?_, obs := fun q o hq => (h.obs q o hq).keep hg.st (hs _ (by simp)) rfl, own := ?_, dfr := h.dfr, fix := h.fix, bas := h.bas }
  · intro q fz' cells' hc
    have hc' : (s.bx.set k (some (true, cells)))[q]? = some (some (fz', cells')) := hc
    by_cases e : q = k
    · subst e
      rw [List.getElem?_set_self hklt] at hc'
      simp at hc'; obtain ⟨rfl, rfl⟩ := hc'
      obtain ⟨hl, vs, h1, h2⟩ := h.bxs q fz cells hk
      refine ⟨hl, vs, h1.imp fun _ _ => CRel.mono hg, fun i v hv => ⟨(h2 i v hv).1, by simp, fun _ => ?_⟩⟩
      obtain ⟨_, i2, i3⟩ := h2 i v hv
      cases fz with
      | false =>
        show (if _ then _ else _) = _
        rw [if_pos (i2 rfl).2]
      | true => exact hω _ _ _ (by simp) (i3 rfl)
    · rw [List.getElem?_set_ne (Ne.symm e)] at hc'
      obtain ⟨hl, hb⟩ := h.bxs q fz' cells' hc'
      exact ⟨hl, hb.keep hl hg (hs _ (by simpa using e))⟩
  · intro q hl
    obtain ⟨c, hc⟩ := h.lbs q hl
    show ∃ c, (s.bx.set k _)[q]? = some (some c)
    by_cases e : q = k
    · subst e; exact ⟨_, List.getElem?_set_self hklt⟩
    · exact ⟨c, by rw [List.getElem?_set_ne (Ne.symm e)]; exact hc⟩
  · intro b i x hx
    have hx' : (if g.ω b i = some (.box k) then some Own.st else g.ω b i) = some x := hx
    split at hx'
    · rename_i hc
      simp at hx'; subst hx'
      exact ⟨(h.own b i _ hc).1, (h.wr hc (by simp)).elim .inl (fun hh => .inr (.inl hh))⟩
    · exact h.own b i x hx'
theorem Sim.frozenD {s0 : S U} (h : Sim P E fr g s a w) (hf : FrzLe s0.ob s.ob) {v : Value} {x : A U} {d : D U} (hk : ∀ k ∈ x.obs, ∀ o, s.ob[k]? = some (some o) → o.fr = none) (hd : s0.toD x = some d) (hc : ARel P E g s.ob w v x) : DRel P E g.St w v d := by
  unfold S.toD at hd
  split at hd
  · simp at hd; subst hd; exact hc
  · rename_i c _
    split at hd
    · rename_i e he; simp at hd; subst hd
      exact h.frozenV hf hk he hc
    · simp at hd
  · rename_i cs
    split at hd
    · rename_i e he; simp at hd; subst hd
      obtain ⟨arr, h1, h2⟩ := hc
      exact ⟨arr, h1, h.frozenVs hf hk he h2⟩
    · simp at hd
  · simp at hd
theorem Sim.frozenDs {s0 : S U} (h : Sim P E fr g s a w) (hf : FrzLe s0.ob s.ob) : ∀ {vs : List Value} {al : List (A U)} {ds : List (D U)}, (∀ k ∈ As.obs al, ∀ o, s.ob[k]? = some (some o) → o.fr = none) → s0.toDs al = some ds → All2 (ARel P E g s.ob w) vs al → All2 (DRel P E g.St w) vs ds
  | [], [], ds, _, hd, _ => by simp [S.toDs] at hd; subst hd; trivial
  | v :: vs, x :: al, ds, hk, hd, hr => by
    simp only [S.toDs] at hd
    split at hd
    · rename_i d r h1 h2
      simp at hd; subst hd
      exact ⟨h.frozenD hf (fun k hm => hk k (by simp [As.obs, hm])) h1 hr.1, h.frozenDs hf (fun k hm => hk k (by simp [As.obs, hm])) h2 hr.2⟩
    · simp at hd
theorem Sim.frozenD0 {s0 : S U} (h : Sim P E fr g s a w) (hf : FrzLe s0.ob s.ob) {v : Value} {x : A U} {d : D0 U} (hk : ∀ k ∈ x.obs, ∀ o, s.ob[k]? = some (some o) → o.fr = none) (hd : s0.toD0 x = some d) (hc : ARel P E g s.ob w v x) : D0Rel E g.St w v d := by
  unfold S.toD0 at hd
  split at hd
  · split at hd
    · rename_i e he; simp at hd; subst hd
      exact h.frozenV hf hk he hc
    · simp at hd
  · split at hd
    · rename_i e he; simp at hd; subst hd
      obtain ⟨arr, h1, h2⟩ := hc
      exact ⟨arr, h1, h.frozenVs hf hk he h2⟩
    · simp at hd
  · simp at hd
theorem Sim.frozenD0s {s0 : S U} (h : Sim P E fr g s a w) (hf : FrzLe s0.ob s.ob) : ∀ {vs : List Value} {al : List (A U)} {ds : List (D0 U)}, (∀ k ∈ As.obs al, ∀ o, s.ob[k]? = some (some o) → o.fr = none) → s0.toD0s al = some ds → All2 (ARel P E g s.ob w) vs al → All2 (D0Rel E g.St w) vs ds
  | [], [], ds, _, hd, _ => by simp [S.toD0s] at hd; subst hd; trivial
  | v :: vs, x :: al, ds, hk, hd, hr => by
    simp only [S.toD0s] at hd
    split at hd
    · rename_i d r h1 h2
      simp at hd; subst hd
      exact ⟨h.frozenD0 hf (fun k hm => hk k (by simp [As.obs, hm])) h1 hr.1, h.frozenD0s hf (fun k hm => hk k (by simp [As.obs, hm])) h2 hr.2⟩
    · simp at hd
theorem Sim.frozenDC {s0 : S U} (h : Sim P E fr g s a w) (hf : FrzLe s0.ob s.ob) {v : Value} {c : C U} {d : DC U} (hk : ∀ k ∈ c.obs, ∀ o, s.ob[k]? = some (some o) → o.fr = none) (hd : s0.toDC c = some d) (hc : CRel P E g s.ob w v c) : DCRel P E g.St w v d := by
  unfold S.toDC at hd
  split at hd
  · simp at hd; subst hd; exact hc
  · split at hd
    · rename_i e he; simp at hd; subst hd
      exact h.frozenV hf hk he hc
    · simp at hd
theorem Sim.frozenDCs {s0 : S U} (h : Sim P E fr g s a w) (hf : FrzLe s0.ob s.ob) : ∀ {vs : List Value} {cs : List (C U)} {ds : List (DC U)}, (∀ k ∈ Cs.obs cs, ∀ o, s.ob[k]? = some (some o) → o.fr = none) → s0.toDCs cs = some ds → All2 (CRel P E g s.ob w) vs cs → All2 (DCRel P E g.St w) vs ds
  | [], [], ds, _, hd, _ => by simp [S.toDCs] at hd; subst hd; trivial
  | v :: vs, x :: al, ds, hk, hd, hr => by
    simp only [S.toDCs] at hd
    split at hd
    · rename_i d r h1 h2
      simp at hd; subst hd
      exact ⟨h.frozenDC hf (fun k hm => hk k (by simp [Cs.obs, hm])) h1 hr.1, h.frozenDCs hf (fun k hm => hk k (by simp [Cs.obs, hm])) h2 hr.2⟩
    · simp at hd
theorem vers_spec : ∀ {q : Nat} {os : List (Ob U)} {vers : List Nat}, s.vers q os = some vers → vers.length = os.length ∧ ∀ (j : Nat), j < os.length → q + j < s.ob.length ∧ ∃ v, vers[j]? = some v ∧ ∀ o0, s.ob[q + j]? = some (some o0) → o0.ver < v
  | q, [], vers, h => by simp [S.vers] at h; subst h; exact ⟨rfl, fun j hj => absurd hj (Nat.not_lt_zero _)⟩
  | q, o :: os, vers, h => by
    simp only [S.vers] at h
    split at h
    · rename_i v vs h1 h2
      simp at h; subst h
      obtain ⟨i1, i2⟩ := vers_spec h2
      refine ⟨by simp [i1], fun j hj => ?_⟩
      cases j with
      | zero =>
        unfold S.nver at h1
        split at h1
        · rename_i o0 ho
          simp at h1; subst h1
          exact ⟨(List.getElem?_eq_some_iff.1 ho).1, _, rfl, fun o1 ho1 => by rw [Nat.add_zero, ho] at ho1; simp at ho1; subst ho1; omega⟩
        · rename_i ho
          simp at h1; subst h1
          exact ⟨(List.getElem?_eq_some_iff.1 ho).1, _, rfl, fun o1 ho1 => by rw [Nat.add_zero, ho] at ho1; simp at ho1⟩
        · simp at h1
      | succ j =>
        have := i2 j (by simpa using hj)
        rw [show q + (j + 1) = q + 1 + j from by omega]
        simpa using this
    · simp at h
theorem placed_get : ∀ (os : List (Ob U)) (vers : List Nat) (q : Nat) (l : List (Option (Ob U))), vers.length = os.length → (∀ j, j < os.length → q + j < l.length) → ∀ k, (sets l (placed q os vers))[k]? = if q ≤ k ∧ k < q + os.length then (os[k - q]?).map (fun o => some { o with ver := vers.getD (k - q) 0 }) else l[k]?
  | [], vers, q, l, _, _, k => by
    have : ¬ (q ≤ k ∧ k < q + ([] : List (Ob U)).length) := by simp
    rw [if_neg this]
    cases vers <;> rfl
  | o :: os, [], q, l, hv, _, k => by simp at hv
  | o :: os, v :: vers, q, l, hv, hl, k => by
    simp only [placed, sets]
    rw [placed_get os vers (q + 1) (l.set q (some { o with ver := v })) (by simpa using hv) (fun j hj => by have := hl (j + 1) (by simpa using hj); simp; omega) k]
    have hl0 := hl 0 (by simp)
    simp only [List.length_cons]
    by_cases e : k = q
    · subst e
      rw [if_neg (by omega), if_pos ⟨Nat.le_refl _, by omega⟩, List.getElem?_set_self (by omega)]
      simp
    · by_cases h1 : q ≤ k ∧ k < q + (os.length + 1)
      · rw [if_pos (by omega), if_pos h1]
        rw [show k - q = (k - (q + 1)) + 1 from by omega]
        simp
      · rw [if_neg (by omega), if_neg h1, List.getElem?_set_ne (Ne.symm e)]
theorem ret_len : ∀ {q : Nat} {vers : List Nat} {rs rs' : List (A U)}, As.ret q vers rs = some rs' → rs'.length = rs.length
  | q, vers, [], rs', h => by simp [As.ret] at h; subst h; rfl
  | q, vers, x :: rs, rs', h => by
    simp only [As.ret] at h
    split at h
    · rename_i y ys h1 h2; simp at h; subst h; simp [ret_len h2]
    · simp at h
open Classical in
theorem Sim.returned (h : Sim P E fr g s a w) {w' : World} {v : Value} {rs rs' : List (A U)} {os : List (Ob U)} {q : Nat} {vers : List Nat} (hr : Ret P E g.St w w' v rs os) (hv : s.vers q os = some vers) (hret : As.ret q vers rs = some rs') :
    ∃ g', Sim P E fr g' { s with ob := sets s.ob (placed q os vers) } a w' ∧ AVRel P E g' (sets s.ob (placed q os vers)) w' v (retAV rs') := by
  obtain ⟨hext, gr, hlb, hold, hbd, hrel, hobs⟩ := hr
  obtain ⟨hvl, hvs⟩ := vers_spec hv
  let g' : G := { g with ω := fun b i => if b < w.heap.size then g.ω b i else match gr.ω b i with | some (.obj j) => some (.obj (q + j)) | some .st => some .st | _ => none,
                         tk := fun k => if q ≤ k ∧ k < q + os.length then gr.tk (k - q) else g.tk k }
  have hωo : ∀ b i, b < w.heap.size → g'.ω b i = g.ω b i := fun b i hb => by show (if _ then _ else _) = _; rw [if_pos hb]
  have hωn : ∀ b i, ¬ b < w.heap.size → g'.ω b i = match gr.ω b i with | some (.obj j) => some (.obj (q + j)) | some .st => some .st | _ => none := fun b i hb => by show (if _ then _ else _) = _; rw [if_neg hb]
  have htq : ∀ j, j < os.length → g'.tk (q + j) = gr.tk j := fun j hj => by show (if _ then _ else _) = _; rw [if_pos ⟨by omega, by omega⟩, show q + j - q = j from by omega]
  have htn : ∀ k, ¬ (q ≤ k ∧ k < q + os.length) → g'.tk k = g.tk k := fun k hk => by show (if _ then _ else _) = _; rw [if_neg hk]
  have hs : ∀ x, Same g w g' w' x := fun x b i hx => ⟨by rw [hωo b i (h.own b i x hx).1]; exact hx, hext.cell (p := ⟨b, i, none⟩) (h.own b i x hx).1, hext.stuck (p := ⟨b, i, none⟩) (h.own b i x hx).1⟩
  have hget := placed_get os vers q s.ob hvl (fun j hj => (hvs j hj).1)
  have hgn : ∀ j o, os[j]? = some o → (sets s.ob (placed q os vers))[q + j]? = some (some { o with ver := vers.getD j 0 }) := fun j o ho => by
    have hj : j < os.length := (List.getElem?_eq_some_iff.1 ho).1
    rw [hget, if_pos ⟨by omega, by omega⟩, show q + j - q = j from by omega, ho]; rfl
  have hg : GLe g s.ob w g' (sets s.ob (placed q os vers)) w' := by
    refine ⟨(hs .st).keeps, fun k hl => ⟨hl, rfl⟩, fun k o hk => ?_⟩
    by_cases hin' : q ≤ k ∧ k < q + os.length
    · have hj : k - q < os.length := by omega
      obtain ⟨_, vj, hvj, hlt⟩ := hvs (k - q) hj
      rw [show q + (k - q) = k from by omega] at hlt
      have := hlt o hk
      refine ⟨_, by rw [← show q + (k - q) = k from by omega]; exact hgn (k - q) _ (List.getElem?_eq_getElem hj), ?_, fun e => ?_⟩
      · show o.ver ≤ vers.getD (k - q) 0
        rw [List.getD_eq_getElem?_getD, hvj]; simp; omega
      · have e' : o.ver = vers.getD (k - q) 0 := e
        rw [List.getD_eq_getElem?_getD, hvj] at e'; simp at e'; omega
    · exact ⟨o, by rw [hget, if_neg hin']; exact hk, Nat.le_refl _, fun _ => ⟨rfl, rfl, htn k hin'⟩⟩
  have hkr : Keeps gr.St w' g'.St w' := by
    intro b i hi
    refine ⟨?_, rfl⟩
    show g'.ω b i = _
    by_cases hb : b < w.heap.size
    · rw [hωo b i hb]; exact (hold b i _ hb hi).2
    · rw [hωn b i hb, show gr.ω b i = some .st from hi]
  have hobj : ∀ b i j, gr.ω b i = some (.obj j) → g'.ω b i = some (.obj (q + j)) := fun b i j hi => by
    by_cases hb : b < w.heap.size
    · have := (hold b i _ hb hi).1; simp at this
    · rw [hωn b i hb, hi]
  have hnew : ∀ j o, os[j]? = some o → ObRel E g' w' (q + j) { o with ver := vers.getD j 0 } := by
    intro j o ho
    have hj : j < os.length := (List.getElem?_eq_some_iff.1 ho).1
    obtain ⟨⟨⟨h1, h1'⟩, h2⟩, _⟩ := hobs j o ho
    refine ⟨⟨by rw [htq j hj]; exact h1, h1'⟩, fun hc => ?_⟩
    rw [htq j hj] at hc ⊢
    obtain ⟨b, off, cv, e, hA⟩ := h2 hc
    refine ⟨b, off, cv, e, ⟨fun i j' hi hj' => ?_, fun i hi j' d hd => (hA.rel i hi j' d hd).mono hkr, fun hl x hx hx' => ?_⟩⟩
    · obtain ⟨c1, c2⟩ := hA.cell i j' hi hj'
      refine ⟨c1, ?_⟩
      unfold Mode at c2 ⊢
      show match o.fr with | none => _ | some f => _
      split at c2
      · rename_i hf; simp only [hf]; exact (hkr _ _ c2).1
      · rename_i f hf
        simp only [hf]
        exact ⟨fun hh => (hkr _ _ (c2.1 hh)).1, fun hh => ⟨hobj _ _ _ (c2.2 hh).1, (c2.2 hh).2⟩⟩
    · obtain ⟨d1, d2, d3⟩ := hA.spare hl x hx hx'
      exact ⟨hobj _ _ _ d1, d2, d3⟩
  have hc : ∀ {u : Value} {c c' : C U}, c.ret q vers = some c' → CRel P E gr (os.map some) w' u c → CRel P E g' (sets s.ob (placed q os vers)) w' u c' := by
    intro u c c' he hu
    unfold C.ret at he
    split at he
    · simp at he; subst he; exact hu
    · simp at he; subst he; exact ⟨hu.1.mono hkr, hu.2⟩
    · rename_i j
      split at he
      · rename_i vj hvj
        simp at he; subst he
        obtain ⟨hone, o, ho, _, hval⟩ := hu
        have ho' : os[j]? = some o := by
          rw [List.getElem?_map] at ho
          cases hoj : os[j]? with
          | none => rw [hoj] at ho; simp at ho
          | some o2 => rw [hoj] at ho; simp at ho; rw [ho]
        have hj : j < os.length := (List.getElem?_eq_some_iff.1 ho').1
        have hver := (hobs j o ho').2
        refine ⟨hone, _, hgn j o ho', by rw [List.getD_eq_getElem?_getD, hvj]; exact Nat.le_refl _, fun _ => ?_⟩
        rw [htq j hj]
        exact hval hver.symm
      · simp at he
    · simp at he; subst he; exact FunRel.mono hkr hu
    · simp at he
  have hcs : ∀ {us : List Value} {cs cs' : List (C U)}, Cs.ret q vers cs = some cs' → All2 (CRel P E gr (os.map some) w') us cs → All2 (CRel P E g' (sets s.ob (placed q os vers)) w') us cs' := by
    intro us cs
    induction cs generalizing us with
    | nil =>
      intro cs' he hu
      simp [Cs.ret] at he; subst he
      cases us with
      | nil => trivial
      | cons _ _ => exact hu.elim
    | cons c cs ih =>
      intro cs' he hu
      simp only [Cs.ret] at he
      split at he
      · rename_i x xs h1 h2
        simp at he; subst he
        cases us with
        | nil => exact hu.elim
        | cons u us => exact ⟨hc h1 hu.1, ih h2 hu.2⟩
      · simp at he
  have ha : ∀ {u : Value} {x x' : A U}, x.ret q vers = some x' → ARel P E gr (os.map some) w' u x → ARel P E g' (sets s.ob (placed q os vers)) w' u x' := by
    intro u x x' he hu
    cases x with
    | c y =>
      simp only [A.ret] at he
      split at he
      · rename_i z hz; simp at he; subst he; exact hc hz hu
      · simp at he
    | agg cs =>
      simp only [A.ret] at he
      split at he
      · rename_i z hz; simp at he; subst he
        obtain ⟨arr, e, hh⟩ := hu
        exact ⟨arr, e, hcs hz hh⟩
      · simp at he
    | top => simp [A.ret] at he
  have has : ∀ {us : List Value} {al al' : List (A U)}, As.ret q vers al = some al' → All2 (ARel P E gr (os.map some) w') us al → All2 (ARel P E g' (sets s.ob (placed q os vers)) w') us al' := by
    intro us al
    induction al generalizing us with
    | nil =>
      intro al' he hu
      simp [As.ret] at he; subst he
      cases us with
      | nil => trivial
      | cons _ _ => exact hu.elim
    | cons c cs ih =>
      intro cs' he hu
      simp only [As.ret] at he
      split at he
      · rename_i x xs h1 h2
        simp at he; subst he
        cases us with
        | nil => exact hu.elim
        | cons u us => exact ⟨ha h1 hu.1, ih h2 hu.2⟩
      · simp at he
  refine ⟨g', ?_, ?_⟩
  · refine { ext := h.ext.later hext, tms := h.tms.imp fun _ _ => AVRel.mono hg, bxs := fun k fz cells hk => ?_, lbs := h.lbs, obs := ?_, own := ?_, dfr := h.dfr, fix := h.fix, bas := h.bas }
    · obtain ⟨hl, hb⟩ := h.bxs k fz cells hk
      exact ⟨hl, hb.keep hl hg (hs _)⟩
    · intro k o hk
      have hk' : (sets s.ob (placed q os vers))[k]? = some (some o) := hk
      by_cases hin' : q ≤ k ∧ k < q + os.length
      · have hj : k - q < os.length := by omega
        have h1 := hgn (k - q) _ (List.getElem?_eq_getElem hj)
        rw [show q + (k - q) = k from by omega, hk'] at h1
        simp at h1; subst h1
        have := hnew (k - q) _ (List.getElem?_eq_getElem hj)
        rw [show q + (k - q) = k from by omega] at this
        exact this
      · rw [hget, if_neg hin'] at hk'
        exact (h.obs k o hk').keep hg.st (hs _) (htn k hin')
    · intro b i x hx
      by_cases hb : b < w.heap.size
      · rw [hωo b i hb] at hx
        exact ⟨Nat.lt_of_lt_of_le hb hext.le, (h.own b i x hx).2⟩
      · rw [hωn b i hb] at hx
        refine ⟨?_, .inl (by have := h.ext.size; omega)⟩
        cases ho : gr.ω b i with
        | none => rw [ho] at hx; simp at hx
        | some y => exact hbd b i y ho
  · rw [retAV_rel]
    have hl := ret_len hret
    match rs, rs', hret, hrel with
    | [], [], _, hrel => obtain ⟨arr, e, hh⟩ := hrel; exact ⟨arr, e, by cases hl2 : arr.toList with | nil => trivial | cons _ _ => rw [hl2] at hh; exact hh.elim⟩
    | [x], [x'], hret, hrel =>
      simp only [As.ret] at hret
      split at hret
      · rename_i y ys h1 h2; simp at hret; obtain ⟨rfl, _⟩ := hret; exact ha h1 hrel
      · simp at hret
    | x :: y :: r, x' :: y' :: r', hret, hrel => obtain ⟨arr, e, hh⟩ := hrel; exact ⟨arr, e, has hret hh⟩
    | [], _ :: _, _, _ => simp at hl
    | [_], [], _, _ => simp at hl
    | [_], _ :: _ :: _, _, _ => simp at hl
    | _ :: _ :: _, [], _, _ => simp at hl
    | _ :: _ :: _, [_], _, _ => simp at hl
end Go.Proofs.YtmpnompddfhkeaaGreat.B
namespace Go.Proofs.YtmpnompddfhkeaaGreat.B
open Go Go.RowKit
variable {U : Uni} {P : Program} {E : Enc U} {fr : Fr} {w : World} {g : G} {s : S U} {a : Act}
theorem sets_append {α : Type} : ∀ (l : List α) (x y : List (Nat × α)), sets l (x ++ y) = sets (sets l x) y
  | _, [], _ => rfl
  | l, (k, x) :: r, y => sets_append (l.set k x) r y
theorem unlike_cons {x : Nat} {l : List Nat} (h : unlike (x :: l) = true) : x ∉ l ∧ unlike l = true := by
  simp only [unlike, Bool.and_eq_true, Bool.not_eq_true'] at h
  refine ⟨fun hx => ?_, h.2⟩
  have := List.any_eq_false.1 h.1 x hx
  simp at this
theorem idx_some {k : Nat} : ∀ {l : List Nat} {j i : Nat}, idx k l j = some i → ∃ m, i = j + m ∧ l[m]? = some k
  | [], _, _, h => by simp [idx] at h
  | x :: r, j, i, h => by
    simp only [idx] at h
    split at h
    · rename_i hb
      simp at h; subst h
      exact ⟨0, rfl, by simp [Nat.eq_of_beq_eq_true hb]⟩
    · obtain ⟨m, h1, h2⟩ := idx_some h
      exact ⟨m + 1, by omega, by simpa using h2⟩
theorem idx_of {k : Nat} : ∀ {l : List Nat} {j m : Nat}, unlike l = true → l[m]? = some k → idx k l j = some (j + m)
  | [], _, _, _, h => by simp at h
  | x :: r, j, m, hu, h => by
    obtain ⟨h1, h2⟩ := unlike_cons hu
    simp only [idx]
    cases m with
    | zero => simp at h; subst h; simp
    | succ m =>
      have hm : r[m]? = some k := by simpa using h
      have hne : x ≠ k := by rintro rfl; exact h1 (List.mem_of_getElem? hm)
      have hb : Nat.beq x k = false := by
        cases hh : Nat.beq x k with
        | false => rfl
        | true => exact (hne (Nat.eq_of_beq_eq_true hh)).elim
      rw [hb]
      show idx k r (j + 1) = _
      rw [idx_of h2 hm]; congr 1; omega
theorem idx_none {k : Nat} : ∀ {l : List Nat} {j : Nat}, idx k l j = none → k ∉ l
  | [], _, _ => by simp
  | x :: r, j, h => by
    simp only [idx] at h
    split at h
    · simp at h
    · rename_i hb
      have := idx_none h
      simp only [List.mem_cons, not_or]
      refine ⟨?_, this⟩
      rintro rfl
      simp at hb
theorem passed_spec : ∀ {oks : List Nat} {os : List (Ob U)}, s.passed oks = some os → os.length = oks.length ∧ ∀ (j k : Nat), oks[j]? = some k → ∃ o, s.ob[k]? = some (some o) ∧ os[j]? = some { o with ver := 0 }
  | [], os, h => by simp [S.passed] at h; subst h; exact ⟨rfl, fun j k hk => by simp at hk⟩
  | k :: ks, os, h => by
    simp only [S.passed] at h
    split at h
    · rename_i o r h1 h2
      simp at h; subst h
      obtain ⟨i1, i2⟩ := passed_spec h2
      refine ⟨by simp [i1], fun j q hq => ?_⟩
      cases j with
      | zero => simp at hq; subst hq; exact ⟨o, h1, rfl⟩
      | succ j => exact i2 j q (by simpa using hq)
    · simp at h
theorem boxesAt_spec : ∀ {ks : List Nat} {bs : List (Bool × List (C U))}, s.boxesAt ks = some bs → bs.length = ks.length ∧ ∀ (i k : Nat), ks[i]? = some k → ∃ b, s.bx[k]? = some (some b) ∧ bs[i]? = some b
  | [], bs, h => by simp [S.boxesAt] at h; subst h; exact ⟨rfl, fun j k hk => by simp at hk⟩
  | k :: ks, bs, h => by
    simp only [S.boxesAt] at h
    split at h
    · rename_i o r h1 h2
      simp at h; subst h
      obtain ⟨i1, i2⟩ := boxesAt_spec h2
      refine ⟨by simp [i1], fun j q hq => ?_⟩
      cases j with
      | zero => simp at hq; subst hq; exact ⟨o, h1, rfl⟩
      | succ j => exact i2 j q (by simpa using hq)
    · simp at h
theorem spents_get : ∀ {oks : List Nat} (l : List (Option (Ob U))), unlike oks = true → (∀ k ∈ oks, l[k]? = s.ob[k]?) → ∀ k, (sets l (s.spents oks))[k]? = if k ∈ oks then (s.ob[k]?).map (Option.map Ob.spent) else l[k]?
  | [], l, _, _, k => by simp [S.spents, sets]
  | q :: oks, l, hu, hl, k => by
    obtain ⟨h1, h2⟩ := unlike_cons hu
    simp only [S.spents]
    split
    · rename_i o ho
      simp only [sets]
      rw [spents_get (l.set q (some o.spent)) h2 (fun k hk => by
        rw [List.getElem?_set_ne (by rintro rfl; exact h1 hk)]; exact hl k (by simp [hk])) k]
      have hq : q < l.length := by
        have := hl q (by simp)
        rw [ho] at this
        exact (List.getElem?_eq_some_iff.1 this).1
      by_cases e : k = q
      · subst e
        rw [if_neg h1, if_pos (by simp), List.getElem?_set_self hq, ho]; rfl
      · by_cases hk : k ∈ oks
        · rw [if_pos hk, if_pos (by simp [hk])]
        · rw [if_neg hk, if_neg (by simp [e, hk]), List.getElem?_set_ne (Ne.symm e)]
    · rename_i hno
      rw [spents_get l h2 (fun k hk => hl k (by simp [hk])) k]
      by_cases e : k = q
      · subst e
        rw [if_neg h1, if_pos (by simp), hl k (by simp)]
        cases hk : s.ob[k]? with
        | none => rfl
        | some x =>
          cases x with
          | none => rfl
          | some o => exact (hno o hk).elim
      · by_cases hk : k ∈ oks
        · rw [if_pos hk, if_pos (by simp [hk])]
        · rw [if_neg hk, if_neg (by simp [e, hk])]
def G.sub (g : G) (ks oks : List Nat) : G :=
  { β := fun i => g.β (ks.getD i 0), lb := fun i => i < ks.length,
    ω := fun b o => match g.ω b o with | some .st => some .st | some (.box k) => (idx k ks 0).map Own.box | some (.obj k) => (idx k oks 0).map Own.obj | none => none,
    tk := fun j => g.tk (oks.getD j 0) }
theorem sub_st {ks oks : List Nat} {b o : Nat} : (g.sub ks oks).St b o ↔ g.St b o := by
  show (match g.ω b o with | some .st => some Own.st | some (.box k) => (idx k ks 0).map Own.box | some (.obj k) => (idx k oks 0).map Own.obj | none => none) = some .st ↔ g.ω b o = some .st
  cases hx : g.ω b o with
  | none => simp
  | some x =>
    cases x with
    | st => simp
    | box k => cases idx k ks 0 <;> simp
    | obj k => cases idx k oks 0 <;> simp
theorem sub_keeps {ks oks : List Nat} : Keeps g.St w (g.sub ks oks).St w := fun _ _ h => ⟨sub_st.2 h, rfl⟩
theorem sub_box {ks oks : List Nat} (hu : unlike ks = true) {b o i k : Nat} (hk : ks[i]? = some k) (h : g.ω b o = some (.box k)) : (g.sub ks oks).ω b o = some (.box i) := by
  show (match g.ω b o with | some .st => some Own.st | some (.box k) => (idx k ks 0).map Own.box | some (.obj k) => (idx k oks 0).map Own.obj | none => none) = _
  rw [h]; simp only [idx_of hu hk, Nat.zero_add]; rfl
theorem sub_obj {ks oks : List Nat} (hu : unlike oks = true) {b o j k : Nat} (hk : oks[j]? = some k) (h : g.ω b o = some (.obj k)) : (g.sub ks oks).ω b o = some (.obj j) := by
  show (match g.ω b o with | some .st => some Own.st | some (.box k) => (idx k ks 0).map Own.box | some (.obj k) => (idx k oks 0).map Own.obj | none => none) = _
  rw [h]; simp only [idx_of hu hk, Nat.zero_add]; rfl
theorem sub_mine {ks oks : List Nat} {b o : Nat} (h : (g.sub ks oks).mine b o) : (∃ k ∈ ks, g.ω b o = some (.box k)) ∨ ∃ k ∈ oks, g.ω b o = some (.obj k) := by
  obtain ⟨y, hne, hy⟩ := h
  have hy' : (match g.ω b o with | some .st => some Own.st | some (.box k) => (idx k ks 0).map Own.box | some (.obj k) => (idx k oks 0).map Own.obj | none => none) = some y := hy
  split at hy'
  · simp at hy'; exact (hne hy'.symm).elim
  · rename_i k hk
    cases hi : idx k ks 0 with
    | none => rw [hi] at hy'; simp at hy'
    | some i =>
      obtain ⟨m, _, hm⟩ := idx_some hi
      exact .inl ⟨k, List.mem_of_getElem? hm, hk⟩
  · rename_i k hk
    cases hi : idx k oks 0 with
    | none => rw [hi] at hy'; simp at hy'
    | some i =>
      obtain ⟨m, _, hm⟩ := idx_some hi
      exact .inr ⟨k, List.mem_of_getElem? hm, hk⟩
  · simp at hy'
theorem pass_rel (h : Sim P E fr g s a w) {ks oks : List Nat} {os : List (Ob U)} (hos : s.passed oks = some os) {v : Value} {c : C U} (hc : CRel P E g s.ob w v c) : CRel P E (g.sub ks oks) (os.map some) w v (c.pass s ks oks) := by
  obtain ⟨hl, hp⟩ := passed_spec hos
  have hone := hc.one
  cases c with
  | s x => exact hc
  | sl τ xs f => exact ⟨hc.1.mono sub_keeps, hc.2⟩
  | ob k ver =>
    simp only [C.pass]
    split
    · rename_i o j ho hj
      obtain ⟨m, hm, hm'⟩ := idx_some hj
      rw [Nat.zero_add] at hm; subst hm
      obtain ⟨o', h1, h2⟩ := hp _ k hm'
      obtain ⟨i1, i2⟩ := obAt_eq ho
      rw [i1] at h1; simp at h1; subst h1
      refine ⟨hone, { o with ver := 0 }, by rw [List.getElem?_map, h2]; rfl, Nat.le_refl _, fun _ => ?_⟩
      have := h.obval ho hc
      show v = .slice (g.tk (oks.getD _ 0)).1 o.xs.length (g.tk (oks.getD _ 0)).2
      rw [List.getD_eq_getElem?_getD, hm']; exact this.1
    · exact hone
  | bx k off =>
    simp only [C.pass]
    split
    · rename_i i hi
      obtain ⟨m, hm, hm'⟩ := idx_some hi
      rw [Nat.zero_add] at hm; subst hm
      refine ⟨(List.getElem?_eq_some_iff.1 hm').1, ?_⟩
      show v = .pointer (some ⟨g.β (ks.getD _ 0), off, none⟩)
      rw [List.getD_eq_getElem?_getD, hm']; exact hc.2
    · exact hone
  | el τ xs i off =>
    obtain ⟨h1, b, o, cap, h2, h3⟩ := hc
    exact ⟨h1, b, o, cap, h2, h3.mono sub_keeps⟩
  | em k ver i off =>
    simp only [C.pass]
    split
    · rename_i o j ho hj
      obtain ⟨m, hm, hm'⟩ := idx_some hj
      rw [Nat.zero_add] at hm; subst hm
      obtain ⟨o', h1, h2⟩ := hp _ k hm'
      obtain ⟨i1, i2⟩ := obAt_eq ho
      rw [i1] at h1; simp at h1; subst h1
      obtain ⟨_, o2, c2, c3, c4⟩ := hc
      rw [i1] at c2; simp at c2; subst c2
      obtain ⟨d1, b, o3, d2, d3⟩ := c4 i2.symm
      refine ⟨hone, { o with ver := 0 }, by rw [List.getElem?_map, h2]; rfl, Nat.le_refl _, fun _ => ⟨d1, b, o3, ?_, d3⟩⟩
      show (g.tk (oks.getD _ 0)).1 = _
      rw [List.getD_eq_getElem?_getD, hm']; exact d2
    · exact hone
  | fv φ => exact FunRel.mono sub_keeps hc
  | fc f caps => exact hone
  | top => exact hc
theorem all_map {α β γ : Type} {R : α → β → Prop} {R' : α → γ → Prop} (f : β → γ) (h : ∀ a b, R a b → R' a (f b)) {l : List α} {r : List β} (hh : All2 R l r) : All2 R' l (r.map f) := All2.map_right f h hh
theorem Sim.part (h : Sim P E fr g s a w) {ks oks : List Nat} {bs : List (Bool × List (C U))} {os : List (Ob U)} (hu : unlike ks = true) (huo : unlike oks = true) (hbs : s.boxesAt ks = some bs) (hos : s.passed oks = some os) :
    Part P E (g.sub ks oks) w (bs.map fun b => (b.1, b.2.map (C.pass s ks oks))) os := by
  obtain ⟨hbl, hb⟩ := boxesAt_spec hbs
  obtain ⟨hol, ho⟩ := passed_spec hos
  refine ⟨fun i fz cells hi => ?_, fun k hk => by have hk' : k < ks.length := hk; simpa [hbl] using hk', fun j o hj => ?_, fun b o x hx => ?_⟩
  · rw [List.getElem?_map] at hi
    cases hbi : bs[i]? with
    | none => rw [hbi] at hi; simp at hi
    | some b0 =>
      rw [hbi] at hi; simp at hi; obtain ⟨rfl, rfl⟩ := hi
      have hil : i < ks.length := by rw [← hbl]; exact (List.getElem?_eq_some_iff.1 hbi).1
      obtain ⟨b1, h1, h2⟩ := hb i _ (List.getElem?_eq_getElem hil)
      rw [hbi] at h2; simp at h2; subst h2
      obtain ⟨_, vs, hvs, hcell⟩ := h.bxs _ b0.1 b0.2 h1
      refine ⟨hil, vs, all_map _ (fun _ _ hh => pass_rel h hos hh) hvs, fun n v hv => ?_⟩
      obtain ⟨c1, c2, c3⟩ := hcell n v hv
      have hβ : (g.sub ks oks).β i = g.β ks[i] := by show g.β (ks.getD i 0) = _; rw [List.getD_eq_getElem?_getD, List.getElem?_eq_getElem hil]; rfl
      rw [hβ]
      exact ⟨c1, fun hf => ⟨(c2 hf).1, sub_box hu (List.getElem?_eq_getElem hil) (c2 hf).2⟩, fun hf => sub_st.2 (c3 hf)⟩
  · have hjl : j < oks.length := by rw [← hol]; exact (List.getElem?_eq_some_iff.1 hj).1
    obtain ⟨o', h1, h2⟩ := ho j _ (List.getElem?_eq_getElem hjl)
    rw [hj] at h2; simp at h2; subst h2
    refine ⟨?_, rfl⟩
    have ht : (g.sub ks oks).tk j = g.tk oks[j] := by show g.tk (oks.getD j 0) = _; rw [List.getD_eq_getElem?_getD, List.getElem?_eq_getElem hjl]; rfl
    obtain ⟨⟨q1, q2⟩, q3⟩ := h.obs _ o' h1
    refine ⟨⟨by rw [ht]; exact q1, q2⟩, fun hcap => ?_⟩
    rw [ht] at hcap ⊢
    obtain ⟨b, off, cv, eb, hA⟩ := q3 hcap
    refine ⟨b, off, cv, eb, ⟨fun i1 j1 hi hj1 => ?_, fun i1 hi j1 d hd => (hA.rel i1 hi j1 d hd).mono sub_keeps, fun hl x hx hx' => ?_⟩⟩
    · obtain ⟨d1, d2⟩ := hA.cell i1 j1 hi hj1
      refine ⟨d1, ?_⟩
      unfold Mode at d2 ⊢
      show match o'.fr with | none => _ | some f => _
      split at d2
      · rename_i hf; simp only [hf]; exact sub_st.2 d2
      · rename_i f hf
        simp only [hf]
        exact ⟨fun hh => sub_st.2 (d2.1 hh), fun hh => ⟨sub_obj huo (List.getElem?_eq_getElem hjl) (d2.2 hh).1, (d2.2 hh).2⟩⟩
    · obtain ⟨d1, d2, d3⟩ := hA.spare hl x hx hx'
      exact ⟨sub_obj huo (List.getElem?_eq_getElem hjl) d1, d2, d3⟩
  · have hx' : (match g.ω b o with | some .st => some Own.st | some (.box k) => (idx k ks 0).map Own.box | some (.obj k) => (idx k oks 0).map Own.obj | none => none) = some x := hx
    cases hω : g.ω b o with
    | none => rw [hω] at hx'; simp at hx'
    | some y => exact (h.own b o y hω).1
end Go.Proofs.YtmpnompddfhkeaaGreat.B
namespace Go.Proofs.YtmpnompddfhkeaaGreat.B
open Go Go.RowKit
variable {U : Uni} {P : Program} {E : Enc U} {fr : Fr} {w : World} {g : G} {s : S U} {a : Act}
theorem spent_keep {g' : G} {w' : World} {k : Nat} {o : Ob U} (h : ObRel E g w k o) (hk : Keeps g.St w g'.St w') (ht : g'.tk k = g.tk k) : ObRel E g' w' k o.spent := by
  obtain ⟨⟨h1, h1'⟩, h2⟩ := h
  unfold Ob.spent
  split
  · rename_i hf
    refine ⟨⟨by rw [ht]; exact h1, by rw [hf]; simp⟩, fun hc => ?_⟩
    rw [ht] at hc ⊢
    obtain ⟨b, off, cv, e, hA⟩ := h2 hc
    refine ⟨b, off, cv, e, ⟨fun i j hi hj => ?_, fun i hi j d hd => (hA.rel i hi j d hd).mono hk, by simp⟩⟩
    obtain ⟨c1, c2⟩ := hA.cell i j hi hj
    unfold Mode at c2 ⊢
    simp only [hf] at c2 ⊢
    obtain ⟨k1, k2⟩ := hk _ _ c2
    exact ⟨by rw [k2]; exact c1, k1⟩
  · refine ⟨⟨⟨Nat.zero_le _, Nat.zero_le _⟩, by simp⟩, fun hc => ?_⟩
    rw [ht] at hc ⊢
    obtain ⟨b, off, cv, e, hA⟩ := h2 hc
    exact ⟨b, off, cv, e, ⟨fun i j hi => absurd hi (Nat.not_lt_zero _), fun i hi => absurd hi (Nat.not_lt_zero _), by simp⟩⟩
theorem backB_get {ks0 : List Nat} {q : Nat} {vers : List Nat} : ∀ {ks : List Nat} {bs : List (Bool × List (C U))} (l : List (Option (Bool × List (C U)))), unlike ks = true → bs.length = ks.length → (∀ k ∈ ks, k < l.length) → ∀ k, (sets l (backB ks0 q vers ks bs))[k]? = match idx k ks 0 with | some i => (bs[i]?).map (fun b => some (b.1, b.2.map (C.back ks0 q vers))) | none => l[k]?
  | [], bs, l, _, _, _, k => by cases bs <;> rfl
  | x :: ks, [], l, _, hl, _, k => by simp at hl
  | x :: ks, b :: bs, l, hu, hl, hlt, k => by
    obtain ⟨h1, h2⟩ := unlike_cons hu
    simp only [backB, sets]
    rw [backB_get (l.set x _) h2 (by simpa using hl) (fun k hk => by simpa using hlt k (by simp [hk])) k]
    have hshift : ∀ (l : List Nat) (j : Nat), idx k l (j + 1) = (idx k l j).map (· + 1) := by
      intro l
      induction l with
      | nil => intro j; rfl
      | cons y r ih => intro j; simp only [idx]; split <;> simp [ih]
    simp only [idx]
    cases hb : Nat.beq x k with
    | true =>
      have := Nat.eq_of_beq_eq_true hb
      subst this
      have : idx x ks 0 = none := by
        cases hi : idx x ks 0 with
        | none => rfl
        | some i => obtain ⟨m, _, hm⟩ := idx_some hi; exact (h1 (List.mem_of_getElem? hm)).elim
      rw [this]
      simp only [List.getElem?_cons_zero, Option.map_some]
      rw [List.getElem?_set_self (hlt x (by simp))]
    | false =>
      have hne : x ≠ k := by rintro rfl; simp at hb
      simp only
      rw [hshift]
      cases idx k ks 0 with
      | none => simp only [Option.map_none]; rw [List.getElem?_set_ne hne]
      | some i => simp
open Classical in
theorem Sim.gcall (h : Sim P E fr g s a w) {ks oks : List Nat} {bs bs' : List (Bool × List (C U))} {os os' : List (Ob U)} {q : Nat} {vers : List Nat} {w' : World} {v : Value} {rs : List (A U)}
    (hu : unlike ks = true) (huo : unlike oks = true) (hbs : s.boxesAt ks = some bs) (hos : s.passed oks = some os) (hlen : bs'.length = bs.length) (hv : s.vers q os' = some vers)
    (hr : RetG P E (g.sub ks oks) w w' v rs bs' os') :
    ∃ g2, Sim P E fr g2 { s with bx := sets s.bx (backB ks q vers ks bs'), ob := sets s.ob (s.spents oks ++ placed q os' vers) } a w' ∧ AVRel P E g2 (sets s.ob (s.spents oks ++ placed q os' vers)) w' v (retAV (rs.map (A.back ks q vers))) := by
  obtain ⟨g', hfx, hp, hβ, hor, hrel⟩ := hr
  obtain ⟨hbl, hb⟩ := boxesAt_spec hbs
  obtain ⟨hol, ho⟩ := passed_spec hos
  obtain ⟨hvl, hvs⟩ := vers_spec hv
  rw [sets_append]
  have hsl : (sets s.ob (s.spents oks)).length = s.ob.length := by
    have : ∀ (x : List (Nat × Option (Ob U))) (l : List (Option (Ob U))), (sets l x).length = l.length := by
      intro x
      induction x with
      | nil => intro l; rfl
      | cons y x ih => intro l; obtain ⟨y1, y2⟩ := y; simp only [sets]; rw [ih]; simp
    exact this _ _
  have hget0 := placed_get os' vers q (sets s.ob (s.spents oks)) hvl (fun j hj => by rw [hsl]; exact (hvs j hj).1)
  have hgets := spents_get (s := s) s.ob huo (fun _ _ => rfl)
  generalize hob2 : sets (sets s.ob (s.spents oks)) (placed q os' vers) = ob2 at hget0
  have hbget := backB_get (ks0 := ks) (q := q) (vers := vers) s.bx hu (by rw [hlen, hbl]) (fun k hk => by
    obtain ⟨i, hi⟩ := List.getElem?_of_mem hk
    obtain ⟨b, h1, _⟩ := hb i k hi
    exact (List.getElem?_eq_some_iff.1 h1).1)
  generalize hbx2 : sets s.bx (backB ks q vers ks bs') = bx2 at hbget
  let g2 : G := { β := g.β, lb := g.lb,
                  ω := fun b o => if (g.sub ks oks).mine b o ∨ ¬ b < w.heap.size then (match g'.ω b o with | some .st => some .st | some (.box i) => (ks[i]?).map Own.box | some (.obj j) => some (.obj (q + j)) | none => none) else g.ω b o,
                  tk := fun k => if q ≤ k ∧ k < q + os'.length then g'.tk (k - q) else g.tk k }
  have hωo : ∀ b o, b < w.heap.size → ¬ (g.sub ks oks).mine b o → g2.ω b o = g.ω b o := fun b o h1 h2 => by
    show (if _ then _ else _) = _; rw [if_neg (by intro hh; rcases hh with hh | hh; exact h2 hh; exact hh h1)]
  have hωn : ∀ b o, ((g.sub ks oks).mine b o ∨ ¬ b < w.heap.size) → g2.ω b o = (match g'.ω b o with | some .st => some Own.st | some (.box i) => (ks[i]?).map Own.box | some (.obj j) => some (.obj (q + j)) | none => none) := fun b o h1 => by
    show (if _ then _ else _) = _; rw [if_pos h1]
  have htq : ∀ j, j < os'.length → g2.tk (q + j) = g'.tk j := fun j hj => by show (if _ then _ else _) = _; rw [if_pos ⟨by omega, by omega⟩, show q + j - q = j from by omega]
  have htn : ∀ k, ¬ (q ≤ k ∧ k < q + os'.length) → g2.tk k = g.tk k := fun k hk => by show (if _ then _ else _) = _; rw [if_neg hk]
  have hsame : ∀ x, x = .st ∨ (∃ k, x = .box k ∧ k ∉ ks) ∨ (∃ k, x = .obj k ∧ k ∉ oks) → Same g w g2 w' x := by
    intro x hx b o hω
    have hlt := (h.own b o x hω).1
    have hnm : ¬ (g.sub ks oks).mine b o := by
      intro hm
      rcases sub_mine hm with ⟨k, hk, hh⟩ | ⟨k, hk, hh⟩ <;> rw [hω] at hh <;> simp at hh <;> subst hh
      · rcases hx with hx | ⟨k', hx, hn⟩ | ⟨k', hx, hn⟩ <;> simp at hx
        subst hx; exact hn hk
      · rcases hx with hx | ⟨k', hx, hn⟩ | ⟨k', hx, hn⟩ <;> simp at hx
        subst hx; exact hn hk
    exact ⟨by rw [hωo b o hlt hnm]; exact hω, hfx.cell b o hlt hnm, hfx.frozen b o hlt hnm⟩
  have hst : Keeps g.St w g2.St w' := (hsame .st (.inl rfl)).keeps
  have hkr : Keeps g'.St w' g2.St w' := by
    intro b o hi
    refine ⟨?_, rfl⟩
    have hi' : g'.ω b o = some .st := hi
    by_cases hb' : b < w.heap.size
    · rcases hor b o _ hb' hi' with hm | ⟨_, hm⟩
      · show g2.ω b o = _; rw [hωn b o (.inl hm), hi']
      · exact (hst b o (sub_st.1 hm)).1
    · show g2.ω b o = _; rw [hωn b o (.inr hb'), hi']
  have hbox : ∀ b o i k, ks[i]? = some k → g'.ω b o = some (.box i) → g2.ω b o = some (.box k) := by
    intro b o i k hk hi
    by_cases hb' : b < w.heap.size
    · rcases hor b o _ hb' hi with hm | ⟨hm, _⟩
      · rw [hωn b o (.inl hm), hi]; simp only [hk]; rfl
      · simp at hm
    · rw [hωn b o (.inr hb'), hi]; simp only [hk]; rfl
  have hobj : ∀ b o j, g'.ω b o = some (.obj j) → g2.ω b o = some (.obj (q + j)) := by
    intro b o j hi
    by_cases hb' : b < w.heap.size
    · rcases hor b o _ hb' hi with hm | ⟨hm, _⟩
      · rw [hωn b o (.inl hm), hi]
      · simp at hm
    · rw [hωn b o (.inr hb'), hi]
  have hgn : ∀ j o, os'[j]? = some o → ob2[q + j]? = some (some { o with ver := vers.getD j 0 }) := fun j o ho => by
    have hj : j < os'.length := (List.getElem?_eq_some_iff.1 ho).1
    rw [hget0, if_pos ⟨by omega, by omega⟩, show q + j - q = j from by omega, ho]; rfl
  have hg : GLe g s.ob w g2 ob2 w' := by
    refine ⟨hst, fun k hl => ⟨hl, rfl⟩, fun k o hk => ?_⟩
    by_cases hin' : q ≤ k ∧ k < q + os'.length
    · have hj : k - q < os'.length := by omega
      obtain ⟨_, vj, hvj, hlt⟩ := hvs (k - q) hj
      rw [show q + (k - q) = k from by omega] at hlt
      have := hlt o hk
      refine ⟨_, by rw [← show q + (k - q) = k from by omega]; exact hgn (k - q) _ (List.getElem?_eq_getElem hj), ?_, fun e => ?_⟩
      · show o.ver ≤ vers.getD (k - q) 0
        rw [List.getD_eq_getElem?_getD, hvj]; simp; omega
      · have e' : o.ver = vers.getD (k - q) 0 := e
        rw [List.getD_eq_getElem?_getD, hvj] at e'; simp at e'; omega
    · by_cases hko : k ∈ oks
      · refine ⟨o.spent, by rw [hget0, if_neg hin', hgets, if_pos hko, hk]; rfl, (spent_ver o).1, fun e => ⟨((spent_ver o).2 e).1, ((spent_ver o).2 e).2, htn k hin'⟩⟩
      · exact ⟨o, by rw [hget0, if_neg hin', hgets, if_neg hko]; exact hk, Nat.le_refl _, fun _ => ⟨rfl, rfl, htn k hin'⟩⟩
  have hnew : ∀ j o, os'[j]? = some o → ObRel E g2 w' (q + j) { o with ver := vers.getD j 0 } := by
    intro j o ho
    have hj : j < os'.length := (List.getElem?_eq_some_iff.1 ho).1
    obtain ⟨⟨⟨h1, h1'⟩, h2⟩, _⟩ := hp.obs j o ho
    refine ⟨⟨by rw [htq j hj]; exact h1, h1'⟩, fun hc => ?_⟩
    rw [htq j hj] at hc ⊢
    obtain ⟨b, off, cv, e, hA⟩ := h2 hc
    refine ⟨b, off, cv, e, ⟨fun i j' hi hj' => ?_, fun i hi j' d hd => (hA.rel i hi j' d hd).mono hkr, fun hl x hx hx' => ?_⟩⟩
    · obtain ⟨c1, c2⟩ := hA.cell i j' hi hj'
      refine ⟨c1, ?_⟩
      unfold Mode at c2 ⊢
      show match o.fr with | none => _ | some f => _
      split at c2
      · rename_i hf; simp only [hf]; exact (hkr _ _ c2).1
      · rename_i f hf
        simp only [hf]
        exact ⟨fun hh => (hkr _ _ (c2.1 hh)).1, fun hh => ⟨hobj _ _ _ (c2.2 hh).1, (c2.2 hh).2⟩⟩
    · obtain ⟨d1, d2, d3⟩ := hA.spare hl x hx hx'
      exact ⟨hobj _ _ _ d1, d2, d3⟩
  have hlbk : ∀ i, g'.lb i → ∃ k, ks[i]? = some k ∧ g'.β i = g.β k ∧ g.lb k := by
    intro i hi
    have hil : i < ks.length := by have := hp.lbs i hi; omega
    obtain ⟨b, h1, _⟩ := hb i _ (List.getElem?_eq_getElem hil)
    refine ⟨_, List.getElem?_eq_getElem hil, ?_, (h.bxs _ b.1 b.2 h1).1⟩
    rw [hβ i hil]
    show g.β (ks.getD i 0) = _
    rw [List.getD_eq_getElem?_getD, List.getElem?_eq_getElem hil]; rfl
  have hc : ∀ {u : Value} {c : C U}, CRel P E g' (os'.map some) w' u c → CRel P E g2 ob2 w' u (c.back ks q vers) := by
    intro u c hu'
    have hone := hu'.one
    cases c with
    | s x => exact hu'
    | sl τ xs f => exact ⟨hu'.1.mono hkr, hu'.2⟩
    | ob j ver =>
      cases ver with
      | zero =>
        simp only [C.back]
        split
        · rename_i vj hvj
          obtain ⟨_, o, ho1, _, hval⟩ := hu'
          have ho' : os'[j]? = some o := by
            rw [List.getElem?_map] at ho1
            cases hoj : os'[j]? with
            | none => rw [hoj] at ho1; simp at ho1
            | some o2 => rw [hoj] at ho1; simp at ho1; rw [ho1]
          have hj : j < os'.length := (List.getElem?_eq_some_iff.1 ho').1
          have hver := (hp.obs j o ho').2
          refine ⟨hone, _, hgn j o ho', by rw [List.getD_eq_getElem?_getD, hvj]; exact Nat.le_refl _, fun _ => ?_⟩
          rw [htq j hj]
          exact hval hver.symm
        · exact hone
      | succ n => exact hone
    | em j ver i off => exact hone
    | bx i off =>
      simp only [C.back]
      obtain ⟨k, h1, h2, h3⟩ := hlbk i hu'.1
      rw [h1]
      exact ⟨h3, by show u = .pointer (some ⟨g.β k, off, none⟩); rw [← h2]; exact hu'.2⟩
    | el τ xs i off =>
      obtain ⟨h1, b, o, cap, h2, h3⟩ := hu'
      exact ⟨h1, b, o, cap, h2, h3.mono hkr⟩
    | fv φ => exact FunRel.mono hkr hu'
    | fc f caps => exact hone
    | top => exact hu'
  have ha : ∀ (u : Value) (x : A U), ARel P E g' (os'.map some) w' u x → ARel P E g2 ob2 w' u (x.back ks q vers) := by
    intro u x hu'
    cases x with
    | c y => exact hc hu'
    | agg cs =>
      obtain ⟨arr, e, hh⟩ := hu'
      exact ⟨arr, e, all_map (C.back ks q vers) (fun _ _ hx => hc hx) hh⟩
    | top => trivial
  refine ⟨g2, ?_, ?_⟩
  · refine { ext := ?_, tms := h.tms.imp fun _ _ => AVRel.mono hg, bxs := fun k fz cells hk => ?_, lbs := fun k hl => ?_, obs := fun k o hk => ?_, own := fun b o x hx => ?_, dfr := h.dfr, fix := h.fix, bas := h.bas }
    · have hown : ∀ b o, (g.sub ks oks).mine b o → fr.w0.heap.size ≤ b ∨ fr.own b o := by
        intro b o hm
        rcases sub_mine hm with ⟨k, _, hh⟩ | ⟨k, _, hh⟩
        · exact h.wr hh (by simp)
        · exact h.wr hh (by simp)
      have hle : fr.w0.heap.size ≤ w.heap.size := h.ext.size
      refine ⟨hfx.os.trans h.ext.os, hfx.tape.trans h.ext.tape, hfx.output.trans h.ext.output, Nat.le_trans h.ext.size hfx.size, fun k hk hn => ?_, fun b o hb' hn => ?_, fun b o hb' hn => ?_⟩
      · rw [hfx.block k (Nat.lt_of_lt_of_le hk hle) (fun o hm => by rcases hown k o hm with h1 | h1; omega; exact hn o h1)]
        exact h.ext.block k hk hn
      · rw [hfx.cell b o (Nat.lt_of_lt_of_le hb' hle) (fun hm => by rcases hown b o hm with h1 | h1; omega; exact hn h1)]
        exact h.ext.cell b o hb' hn
      · rw [hfx.frozen b o (Nat.lt_of_lt_of_le hb' hle) (fun hm => by rcases hown b o hm with h1 | h1; omega; exact hn h1)]
        exact h.ext.frozen b o hb' hn
    · have hk' : bx2[k]? = some (some (fz, cells)) := hk
      rw [hbget] at hk'
      cases hi : idx k ks 0 with
      | none =>
        rw [hi] at hk'
        obtain ⟨hl, hbr⟩ := h.bxs k fz cells hk'
        exact ⟨hl, hbr.keep hl hg (hsame _ (.inr (.inl ⟨k, rfl, idx_none hi⟩)))⟩
      | some i =>
        rw [hi] at hk'
        dsimp only at hk'
        obtain ⟨m, hm, hm'⟩ := idx_some hi
        rw [Nat.zero_add] at hm; subst hm
        cases hbi : bs'[i]? with
        | none => rw [hbi] at hk'; simp at hk'
        | some b0 =>
          rw [hbi] at hk'; simp at hk'
          obtain ⟨rfl, rfl⟩ := hk'
          obtain ⟨hl, vs, hvs', hcell⟩ := hp.bxs i b0.1 b0.2 hbi
          obtain ⟨k', e1, e2, e3⟩ := hlbk i hl
          rw [hm'] at e1; simp at e1; subst e1
          refine ⟨e3, vs, all_map (C.back ks q vers) (fun _ _ hx => hc hx) hvs', fun n u hu' => ?_⟩
          obtain ⟨c1, c2, c3⟩ := hcell n u hu'
          show w'.cell? ⟨g.β k, n, none⟩ = _ ∧ (_ → stuck w' ⟨g.β k, n, none⟩ = false ∧ g2.ω (g.β k) n = _) ∧ (_ → g2.St (g.β k) n)
          rw [← e2]
          exact ⟨c1, fun hf => ⟨(c2 hf).1, hbox _ _ _ _ hm' (c2 hf).2⟩, fun hf => (hkr _ _ (c3 hf)).1⟩
    · show ∃ c, bx2[k]? = _
      rw [hbget]
      cases hi : idx k ks 0 with
      | none => exact h.lbs k hl
      | some i =>
        obtain ⟨m, hm, hm'⟩ := idx_some hi
        rw [Nat.zero_add] at hm; subst hm
        have hil : i < bs'.length := by rw [hlen, hbl]; exact (List.getElem?_eq_some_iff.1 hm').1
        simp only [List.getElem?_eq_getElem hil]
        exact ⟨_, rfl⟩
    · have hk' : ob2[k]? = some (some o) := hk
      by_cases hin' : q ≤ k ∧ k < q + os'.length
      · have hj : k - q < os'.length := by omega
        have h1 := hgn (k - q) _ (List.getElem?_eq_getElem hj)
        rw [show q + (k - q) = k from by omega, hk'] at h1
        simp at h1; subst h1
        have := hnew (k - q) _ (List.getElem?_eq_getElem hj)
        rw [show q + (k - q) = k from by omega] at this
        exact this
      · rw [hget0, if_neg hin', hgets] at hk'
        by_cases hko : k ∈ oks
        · rw [if_pos hko] at hk'
          cases hsk : s.ob[k]? with
          | none => rw [hsk] at hk'; simp at hk'
          | some x =>
            cases x with
            | none => rw [hsk] at hk'; simp at hk'
            | some o0 =>
              rw [hsk] at hk'; simp at hk'; subst hk'
              exact spent_keep (h.obs k o0 hsk) hst (htn k hin')
        · rw [if_neg hko] at hk'
          exact (h.obs k o hk').keep hst (hsame _ (.inr (.inr ⟨k, rfl, hko⟩))) (htn k hin')
    · have hsz := hfx.size
      by_cases hc' : (g.sub ks oks).mine b o ∨ ¬ b < w.heap.size
      · rw [hωn b o hc'] at hx
        have hlt : b < w'.heap.size := by
          cases hω : g'.ω b o with
          | none => rw [hω] at hx; simp at hx
          | some y => exact hp.own b o y hω
        refine ⟨hlt, ?_⟩
        rcases hc' with hm | hn
        · rcases sub_mine hm with ⟨k, _, hh⟩ | ⟨k, _, hh⟩
          · exact (h.wr hh (by simp)).elim .inl (fun hh => .inr (.inl hh))
          · exact (h.wr hh (by simp)).elim .inl (fun hh => .inr (.inl hh))
        · exact .inl (by have := h.ext.size; omega)
      · have hb' : b < w.heap.size := by
          by_cases hlt : b < w.heap.size
          · exact hlt
          · exact (hc' (.inr hlt)).elim
        rw [hωo b o hb' (fun hm => hc' (.inl hm))] at hx
        exact ⟨Nat.lt_of_lt_of_le hb' hsz, (h.own b o x hx).2⟩
  · rw [retAV_rel]
    match rs, hrel with
    | [], hrel => obtain ⟨arr, e, hh⟩ := hrel; exact ⟨arr, e, all_map (A.back ks q vers) ha hh⟩
    | [x], hrel => exact ha _ _ hrel
    | x :: y :: r, hrel => obtain ⟨arr, e, hh⟩ := hrel; exact ⟨arr, e, all_map (A.back ks q vers) ha hh⟩
end Go.Proofs.YtmpnompddfhkeaaGreat.B
