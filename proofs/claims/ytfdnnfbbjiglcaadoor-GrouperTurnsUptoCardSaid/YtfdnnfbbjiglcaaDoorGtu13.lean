/- Part 13 of the proof: Lkeyof Lkeys Sref03 Sgrpp Lref33. -/
import Derived.Deep.RegionHeld3
import Derived.Lib.OthersKept
import Derived.Lib.AppendIntMem
import Derived.Laws.Concat
import Derived.Maps.OwnSet
import Derived.Maps.Views
import Derived.DeepKeys4
import Derived.WalkKit
import Derived.Lib.Walk
import Derived.Lib.Hide
import Derived.Deep.LoopGhost
import Derived.Deep.AppendLies
import Derived.Deep.QuietTactic
import Derived.BigQuiet
import Derived.Deep.Cut
import Derived.Test.YtfdnnfbbjiglcaaDoorGtu12
namespace Go.Proofs.YtfdnnfbbjiglcaaDoor.B
open Go Go.RowKit Go.Shelf
set_option maxRecDepth 1000000
set_option linter.unusedVariables false
noncomputable section
theorem isB_ext {T e : TypeId} {B b : Nat} {bs : List Value} {w w' : World} (h : Lib.IsBuilderF T e B b bs w) (hx : Ext w w') : Lib.IsBuilderF T e B b bs w' := by
  have key : ∀ p, Lib.BuilderAtF T e B b p bs w → Lib.BuilderAtF T e B b p bs w' := fun p ⟨h1, v, h2, h3, h4⟩ => by
    have hb : b < w.heap.size := (Array.getElem?_eq_some_iff.1 h2).1
    refine ⟨h1, v, by rw [hx.block hb]; exact h2, h3.kept (row := none) ⟨hx.os, hx.tape, hx.output, hx.size, fun k hk _ => hx.block hk⟩ ?_, h4⟩
    cases hv : v.ownBlock with
    | none => exact .inl rfl
    | some g => exact .inr (by simp)
  exact h.imp (key _) (key _)
theorem itoa_calls (n : Int) (h : -9223372036854775808 ≤ n ∧ n ≤ 9223372036854775807) (w : World) (hld : Laid w) :
    Calls Tryd.prog 27 #[.int .i64 n] w fun e w' => e = .returned (.string ⟨(Lib.itoa n).toArray⟩) ∧ Ext w w' := by
  refine (Tryd.strconv_Itoa n h.1 h.2 w hld).mono ?_
  rintro e w' ⟨rfl, k, os, rfl⟩
  exact ⟨rfl, Lib.below_grow _ _ (Nat.le_refl _) _ _⟩
theorem itoa_text (n : Int) (h : -9223372036854775808 ≤ n ∧ n ≤ 9223372036854775807) : ∃ t : ByteArray, t.data.toList = Lib.itoa n ∧ t.size ≤ 21 ∧ ∀ (w : World), Laid w → Calls Tryd.prog 27 #[.int .i64 n] w fun e w' => e = .returned (.string t) ∧ Ext w w' :=
  ⟨⟨(Lib.itoa n).toArray⟩, rfl, by have := Lib.itoa_length_le n h.1 h.2; exact this, itoa_calls n h⟩
theorem cat_text (a b : ByteArray) (h : a.size + b.size ≤ 1000000000000000) : ∃ t : ByteArray, t.data.toList = a.data.toList ++ b.data.toList ∧ t.size = a.size + b.size ∧ t = a ++ b ∧ ¬ (9223372036854775807 < a.size + b.size) :=
  ⟨a ++ b, by simp [ByteArray.data_append], by simp [ByteArray.size_append], rfl, by omega⟩
theorem kept4 {w wr W3 W4 : World} {o : Obj} {k n : Int} {s : ByteArray} {t e : TypeId} (hk : Lib.OthersKept e (some (w.heap.size + 1)) W3 W4) (hx : Ext (wr.alloc o).drew W3) (h0 : (wr.alloc o).heap[wr.heap.size]? = some (.cells #[.int .i64 k, .int .i64 n, .string s] t (0, 0))) (hs : w.heap.size + 1 < wr.heap.size) (ht : t ≠ e) :
    W4.cell? ⟨wr.heap.size, 0, none⟩ = some (.int .i64 k) ∧ W4.cell? ⟨wr.heap.size, 1, none⟩ = some (.int .i64 n) ∧ W4.cell? ⟨wr.heap.size, 2, none⟩ = some (.string s) := by
  have h1 : W3.heap[wr.heap.size]? = some (.cells #[.int .i64 k, .int .i64 n, .string s] t (0, 0)) := by
    rw [hx.block (show wr.heap.size < (wr.alloc o).drew.heap.size by simp)]; exact h0
  have h2 := hk _ _ h1 (by simp; omega) (fun c fz e2 => ht (by cases e2; rfl))
  refine ⟨?_, ?_, ?_⟩ <;> simp [World.cell?, h2]
theorem key_cells {W : World} {B : Nat} {u v : Value} {t : TypeId} (h : W.heap[B]? = some (.cells #[u, v] t (0, 0))) : W.cell? ⟨B, 0, none⟩ = some u ∧ W.cell? ⟨B, 1, none⟩ = some v ∧ W.frozen? ⟨B, 0, none⟩ = false ∧ W.frozen? ⟨B, 1, none⟩ = false := by
  refine ⟨?_, ?_, ?_, ?_⟩ <;> simp [World.cell?, World.frozen?, h]
theorem keyT_part {r : List Val} {i : Nat} {x : Val} (h : r[i]? = some x) : keyT (r.take (i + 1)) = keyT (r.take i) ++ valT x ∧ (keyT (r.take i)).length + (valT x).length ≤ (keyT r).length := by
  obtain ⟨hi, hx⟩ := List.getElem?_eq_some_iff.1 h
  have e1 : r.take (i + 1) = r.take i ++ [x] := by rw [List.take_add_one, h]; rfl
  have e2 : keyT (r.take (i + 1)) = keyT (r.take i) ++ valT x := by rw [e1, keyT_append]; simp [keyT]
  refine ⟨e2, ?_⟩
  have e3 : keyT r = keyT (r.take (i + 1)) ++ keyT (r.drop (i + 1)) := by rw [← keyT_append, List.take_append_drop]
  rw [e3, e2]
  simp only [List.length_append]
  omega
theorem strCells_byte (s : ByteArray) (l : List UInt8) (h : s.data.toList = l) : Lib.strCells s = Lib.byteCells l := by unfold Lib.strCells Lib.byteCells; rw [h]
structure RK (w : World) (r : List Val) (i : Nat) (wr : World) : Prop where
  ext : Ext w wr
  key : wr.heap[w.heap.size]? = some (.cells #[.int .i64 0, .string ⟨#[]⟩] 39 (0, 0))
  bld : Lib.IsBuilderF 51 5 w.heap.size (w.heap.size + 1) (Lib.byteCells (keyT (r.take i))) wr
set_option maxHeartbeats 8000000 in
theorem keyOf_walk (r : List Val) (a : Option Addr) (b off cap : Nat) (w : World) (hld : Laid w) (hlen : r.length ≤ 1000000000) (htx : (keyT r).length ≤ 1000000000000)
    (ha : r ≠ [] → a = some ⟨b, off, none⟩ ∧ r.length ≤ cap)
    (hcell : ∀ i x, r[i]? = some x → (w.cell? ⟨b, off + i * 3, none⟩ = some (.int .i64 x.kind) ∧ w.cell? ⟨b, off + i * 3 + 1, none⟩ = some (.int .i64 x.n) ∧ w.cell? ⟨b, off + i * 3 + 2, none⟩ = some (.string x.s)) ∧
      (-9223372036854775808 ≤ x.kind ∧ x.kind ≤ 9223372036854775807) ∧ (-9223372036854775808 ≤ x.n ∧ x.n ≤ 9223372036854775807) ∧ x.s.size ≤ maxLen) :
    Calls Tryd.prog 18 #[.slice a r.length cap] w fun e w' => e = .returned (.agg #[.int .i64 r.length, .string ⟨(keyT r).toArray⟩]) ∧ Ext w w' := by
  have mixed : Tryd.prog.follows .mixedOrders = true := by kernel_rfl
  go_enter Tryd.func18, Tryd.ntmps18
  go_wp2
  go_loopw [8] (fun s8 wr => ∃ (i : Nat), i ≤ r.length ∧ s8 = .int .i64 i ∧ RK w r i wr) (fun s8 _ => r.length - (intOf s8).toNat)
  case atStart =>
    have h1 : ∀ (h : Array Obj) (o : Obj), (h.push o)[h.size]? = some o := fun h o => by simp
    refine ⟨0, Nat.zero_le _, rfl, ⟨((Ext.refl w).alloc _).alloc _, ?_, .inl ⟨Nat.le_succ _, .slice none 0 0, ?_, World.ownsRowF_nil _ _ _ _, by simp [Value.ownBlock]⟩⟩⟩
    · rw [heap_alloc_old _ _ (by simp)]; exact h1 w.heap _
    · have h2 : (w.alloc (Obj.cells #[Value.int IntKind.i64 0, Value.string { data := #[] }] 39)).heap.size = w.heap.size + 1 := by simp
      rw [← h2]; exact h1 _ _
  case round =>
    obtain ⟨i, hi, rfl, hr⟩ := hrel
    by_cases hlt : i < r.length
    · obtain ⟨x, hx⟩ : ∃ x, r[i]? = some x := ⟨_, List.getElem?_eq_getElem hlt⟩
      obtain ⟨rfl, hcap⟩ := ha (fun e => by rw [e] at hlt; simp at hlt)
      obtain ⟨⟨c0, c1, c2⟩, b0, b1, b2⟩ := hcell i x hx
      have d0 := hr.ext.keeps c0
      have d1 := hr.ext.keeps c1
      have d2 := hr.ext.keeps c2
      have hsz1 : w.heap.size + 1 < wr.heap.size := by
        have : ∀ p, Lib.BuilderAtF 51 5 w.heap.size (w.heap.size + 1) p (Lib.byteCells (keyT (r.take i))) wr → w.heap.size + 1 < wr.heap.size := fun p ⟨_, v, h2, _⟩ => (Array.getElem?_eq_some_iff.1 h2).1
        exact hr.bld.elim (this _) (this _)
      obtain ⟨kt1, kt2⟩ := keyT_part hx
      have hvl : x.s.size ≤ (valT x).length := by
        unfold valT
        simp only [List.length_append, List.length_cons]
        have : x.s.data.toList.length = x.s.size := rfl
        omega
      have KT := Lib.hid kt1
      clear kt1
      have HR := Lib.hid hr
      clear hr c0 c1 c2
      have k0 : (i : Int) < (r.length : Int) := by omega
      go_wp2_with fail
      have E0 : Ext wr (wr.alloc (Obj.cells #[Value.int IntKind.i64 x.kind, Value.int IntKind.i64 x.n, Value.string x.s] 35)).drew := ((Ext.refl wr).alloc _).drew
      have q0 : (wr.alloc (Obj.cells #[Value.int IntKind.i64 x.kind, Value.int IntKind.i64 x.n, Value.string x.s] 35)).heap[wr.heap.size]? = some (Obj.cells #[Value.int IntKind.i64 x.kind, Value.int IntKind.i64 x.n, Value.string x.s] 35 (0, 0)) := by
        have h1 : ∀ (h : Array Obj) (o : Obj), (h.push o)[h.size]? = some o := fun h o => by simp
        exact h1 _ _
      have EH := Lib.hid E0
      have Q0 := Lib.hid q0
      have b3 : -9223372036854775808 ≤ ((x.s.size : Nat) : Int) ∧ ((x.s.size : Nat) : Int) ≤ 9223372036854775807 := by unfold maxLen at b2; omega
      clear E0 q0
      obtain ⟨t1, p1, l1, I1⟩ := itoa_text x.kind b0
      obtain ⟨t2, p2, l2, I2⟩ := itoa_text x.n b1
      obtain ⟨t3, p3, l3, I3⟩ := itoa_text x.s.size b3
      have hsl : x.s.size ≤ 1000000000000 := by omega
      obtain ⟨s1, u1, v1, z1, y1⟩ := cat_text t1 ⟨#[32]⟩ (by show t1.size + 1 ≤ _; omega)
      obtain ⟨s2, u2, v2, z2, y2⟩ := cat_text s1 t2 (by have : (⟨#[32]⟩ : ByteArray).size = 1 := rfl; omega)
      obtain ⟨s3, u3, v3, z3, y3⟩ := cat_text s2 ⟨#[32]⟩ (by have : (⟨#[32]⟩ : ByteArray).size = 1 := rfl; omega)
      obtain ⟨s4, u4, v4, z4, y4⟩ := cat_text s3 t3 (by have : (⟨#[32]⟩ : ByteArray).size = 1 := rfl; omega)
      obtain ⟨s5, u5, v5, z5, y5⟩ := cat_text s4 ⟨#[32]⟩ (by have : (⟨#[32]⟩ : ByteArray).size = 1 := rfl; omega)
      obtain ⟨s6, u6, v6, z6, y6⟩ := cat_text s5 x.s (by have : (⟨#[32]⟩ : ByteArray).size = 1 := rfl; omega)
      have y1' : ¬ (9223372036854775807 < t1.size + 1) := y1
      have y3' : ¬ (9223372036854775807 < s2.size + 1) := y3
      have y5' : ¬ (9223372036854775807 < s4.size + 1) := y5
      have hs6l : s6.data.toList = valT x := by
        rw [u6, u5, u4, u3, u2, u1, p1, p2, p3]; unfold valT; simp
      have hs6 : (keyT (r.take i)).length + s6.size ≤ 140737488355328 := by
        have : s6.size = (valT x).length := by rw [← hs6l]; rfl
        omega
      have S6 := Lib.hid hs6l
      clear hs6l
      have hs6' : (Lib.byteCells (keyT (r.take i))).length + s6.size ≤ 140737488355328 := by rw [Lib.byteCells_length]; exact hs6
      clear y1 y3 y5
      have Z := Lib.hid (And.intro u1 (And.intro u2 (And.intro u3 (And.intro u4 (And.intro u5 u6)))))
      have V := Lib.hid (And.intro v1 (And.intro v2 (And.intro v3 (And.intro v4 (And.intro v5 v6)))))
      have PP := Lib.hid (And.intro p1 (And.intro p2 p3))
      clear u1 u2 u3 u4 u5 u6 v1 v2 v3 v4 v5 v6 p1 p2 p3
      replace z1 := z1.symm
      replace z2 := z2.symm
      replace z3 := z3.symm
      replace z4 := z4.symm
      replace z5 := z5.symm
      replace z6 := z6.symm
      go_region_held3 (fun w' => w'.cell? ⟨wr.heap.size, 0, none⟩ = some (.int .i64 x.kind) ∧ w'.cell? ⟨wr.heap.size, 1, none⟩ = some (.int .i64 x.n) ∧ w'.cell? ⟨wr.heap.size, 2, none⟩ = some (.string x.s)) (first | go_keep | (refine ⟨hx1.keeps ?_, hx1.keeps ?_, hx1.keeps ?_⟩ <;> simp [*]; done) | (refine ⟨hx2.keeps ?_, hx2.keeps ?_, hx2.keeps ?_⟩ <;> simp [*]; done) | (refine ⟨hx3.keeps ?_, hx3.keeps ?_, hx3.keeps ?_⟩ <;> simp [*]; done) | (exact kept4 hk4 ((hx1.trans hx2).trans hx3) Q0.out hsz1 (by decide)))
        (first
          | (go_at_call_of 27 (Value.int IntKind.i64 x.kind); refine (I1 _ (hld.ext (HR.out.ext.trans EH.out))).mono ?_; rintro e W1 ⟨rfl, hx1⟩)
          | (go_at_call_of 27 (Value.int IntKind.i64 x.n); refine (I2 _ (hld.ext ((HR.out.ext.trans EH.out).trans hx1))).mono ?_; rintro e W2 ⟨rfl, hx2⟩)
          | (go_at_call_of 27 (Value.int IntKind.i64 x.s.size); refine (I3 _ (hld.ext (((HR.out.ext.trans EH.out).trans hx1).trans hx2))).mono ?_; rintro e W3 ⟨rfl, hx3⟩)
          | (go_at_call 26; refine (writeString w.heap.size (w.heap.size + 1) _ s6 _ (isB_ext HR.out.bld (((EH.out.trans hx1).trans hx2).trans hx3)) hs6' (((HR.out.ext.trans EH.out).trans hx1).trans (hx2.trans hx3)).size).mono ?_; rintro e W4 ⟨rfl, hb4, hx4, hk4⟩))
      go_wp2_with fail
      go_roundw
      case rel =>
        refine ⟨i + 1, by omega, by go_num, ?_⟩
        have x3 := (((HR.out.ext.trans EH.out).trans hx1).trans hx2).trans hx3
        have k3 : W3.heap[w.heap.size]? = some (.cells #[.int .i64 0, .string ⟨#[]⟩] 39 (0, 0)) := by
          rw [((((EH.out).trans hx1).trans hx2).trans hx3).block (by omega)]; exact HR.out.key
        exact ⟨Below.trans x3 hx4, hk4 _ _ k3 (by simp) (fun c fz e2 => by cases e2), .inr (by
          rw [KT.out, show Lib.byteCells (keyT (r.take i) ++ valT x) = Lib.byteCells (keyT (r.take i)) ++ Lib.byteCells (valT x) by simp [Lib.byteCells], ← strCells_byte s6 _ S6.out]; exact hb4)⟩
      case measure => simp [intOf]; omega
    · have hie : i = r.length := by omega
      subst hie
      have hb := hr.bld
      rw [List.take_length] at hb
      have hxs := hr.ext.size
      have HR := Lib.hid hr
      have HB := Lib.hid hb
      clear hr hb
      have cS := Tryd.Builder_String_any_k w.heap.size (w.heap.size + 1) (keyT r) _ HB.out hxs
      go_wp2_with (first
        | (go_at_call 28; refine cS.mono ?_; rintro e W5 ⟨rfl, hb5, hx5, hk5⟩; obtain ⟨g0, g1, f0, f1⟩ := key_cells (hk5 _ _ HR.out.key (by simp) (fun c fz e2 => by cases e2)); have X5 := Lib.hid (And.intro hx5 (hk5 _ _ HR.out.key (by simp) (fun c fz e2 => by cases e2))); clear hx5 hb5 hk5))
      refine bodyPost_ret (v := .agg #[.int .i64 r.length, .string ⟨(keyT r).toArray⟩]) (by unfold results; go_simp) rfl ?_
      exact ⟨rfl, ((Below.trans HR.out.ext X5.out.1).setCell (Nat.le_refl _) _).setCell (Nat.le_refl _) _⟩
end
end Go.Proofs.YtfdnnfbbjiglcaaDoor.B
namespace Go.Proofs.YtfdnnfbbjiglcaaDoor.B
open Go Go.RowKit Go.Shelf Go.Maps
set_option maxRecDepth 1000000
set_option linter.unusedVariables false
noncomputable section
theorem klaw : Keyed Tryd.prog 39 := Keyed.of_law (deep_law_laid (by kernel_rfl) (m := 3) (by omega) (of_decide_eq_true (by kernel_rfl)) (by kernel_rfl) (by kernel_rfl))
def klOf (r : List Val) : Lit := .string (keyBytes [.int .i64 r.length, .string (keyT r)])
def keyV (r : List Val) : Value := .agg #[.int .i64 r.length, .string ⟨(keyT r).toArray⟩]
theorem hkey (r : List Val) (hl : r.length ≤ 1000000000) (ht : (keyT r).length ≤ 1000000000000) : keyOf Tryd.prog 39 (keyV r) = some (klOf r) := by
  have hk : Tryd.prog.keyType 39 = true := by kernel_rfl
  have hs : Tryd.prog.types.size = (Tryd.prog.types.size - 1) + 1 := by kernel_rfl
  have hw : (Lit.int .i64 (r.length : Int)).wf = true := by
    exact WalkArith.wf_i64 (by omega)
  have hz : (⟨(keyT r).toArray⟩ : ByteArray).size ≤ maxLen := by show (keyT r).toArray.size ≤ maxLen; unfold maxLen; simp; omega
  have c1 : Tryd.prog.cellsOf 39 = 2 := by kernel_rfl
  have c2 : Tryd.prog.cellsOf 3 = 1 := by kernel_rfl
  have c3 : Tryd.prog.cellsOf 9 = 1 := by kernel_rfl
  unfold keyOf keyV klOf
  rw [Tryd.underlying39]
  simp only [hk, Value.formed, Tryd.underlying39, c1, Value.cells]
  have k1 : ∀ (d : Nat) (n : Int), (Lit.int .i64 n).wf = true → Tryd.prog.keyLits (d + 1) 3 [Value.int .i64 n] = some [.int .i64 n] := fun d n h => by
    unfold Program.keyLits; rw [Tryd.underlying3]; simp [h]
  have k2 : ∀ (d : Nat) (s : ByteArray), s.size ≤ maxLen → Tryd.prog.keyLits (d + 1) 9 [Value.string s] = some [.string s.data.toList] := fun d s h => by
    unfold Program.keyLits; rw [Tryd.underlying9]; simp [h]
  have e1 : ∀ d : Nat, Tryd.prog.keyLits (d + 2) 39 [Value.int IntKind.i64 (r.length : Int), Value.string ⟨(keyT r).toArray⟩] = some [.int .i64 r.length, .string (keyT r)] := fun d => by
    unfold Program.keyLits
    rw [Tryd.underlying39]
    simp [c1, c2, c3, k1 d _ hw, k2 d _ hz]
  have e2 : Tryd.prog.types.size + 1 = (Tryd.prog.types.size - 1) + 2 := by rw [hs]; omega
  rw [e2] 
  simp [e1]
theorem klOf_inj {a b : List Val} (ha : a.length ≤ 1000000000) (ha' : (keyT a).length ≤ 1000000000000) (hb : b.length ≤ 1000000000) (hb' : (keyT b).length ≤ 1000000000000) (h : klOf a = klOf b) : a = b := by
  have h1 := hkey a ha ha'
  have h2 := hkey b hb hb'
  rw [← h] at h2
  have h3 := klaw.inj h1 h2
  unfold keyV at h3
  simp only [Value.agg.injEq, Array.mk.injEq, List.cons.injEq, Value.string.injEq, ByteArray.mk.injEq] at h3
  exact keyT_inj (by simpa using h3.2.1)
theorem klOf_is {a : List Val} (ha : a.length ≤ 1000000000) (ha' : (keyT a).length ≤ 1000000000000) : WideAt.IsKeyLit (klOf a) := klaw.key (hkey a ha ha')
end
end Go.Proofs.YtfdnnfbbjiglcaaDoor.B
namespace Go.Proofs.YtfdnnfbbjiglcaaDoor.B
open Go Go.RowKit
set_option maxRecDepth 100000
noncomputable section
attribute [local irreducible] awp ctxK itersK iterK retQ retGQ
def M_r03_ints : Mc Un := mach (tbl []) (tbl []) (tbl []) (tbl []) (tbl [])
def N_r03_ints : Nat → NS := fun l => (look l []).getD ⟨[], [], [], [], [], false⟩
def A_r03_ints (r : Int) : List (A Un) := [.c (.s (.int .i64 r))]
def O_r03_ints (_r : Int) : List (Ob Un) := []
theorem r03_ints_in (a : Int) (b : Int) (K : List (A Un) → List (Ob Un) → Prop) :
    awp M_r03_ints N_r03_ints (bodyOf Tryd.f30) (entry Tryd.f30.ntmps 0 [.d (.v (.s (.int .i64 a))), .d (.v (.s (.int .i64 b)))]) (retQ M_r03_ints Tryd.f30.results.toList [.d] K) =
(cnd (decide (a < b))
 (K (A_r03_ints ((-1 : Int))) (O_r03_ints ((-1 : Int))))
 (cnd (decide (a > b))
  (K (A_r03_ints ((1 : Int))) (O_r03_ints ((1 : Int))))
  (K (A_r03_ints ((0 : Int))) (O_r03_ints ((0 : Int)))))) := by kernel_rfl
def r03_ints_fn (a : Int) (b : Int) : Option (Int) :=
  if (decide (a < b)) = true then
   some ((-1 : Int))
  else
   if (decide (a > b)) = true then
    some ((1 : Int))
   else
    some ((0 : Int))
theorem r03_ints_run {a : Int} {b : Int} {r : Int} (h : r03_ints_fn a b = some r) : Runs (awp M_r03_ints N_r03_ints (bodyOf Tryd.f30) (entry Tryd.f30.ntmps 0 [.d (.v (.s (.int .i64 a))), .d (.v (.s (.int .i64 b)))]) (retQ M_r03_ints Tryd.f30.results.toList [.d] fun rs os => rs = A_r03_ints r ∧ os = O_r03_ints r)) := by
  constructor
  rw [r03_ints_in a b (fun rs os => rs = A_r03_ints r ∧ os = O_r03_ints r)]
  unfold r03_ints_fn at h
  rcases ite_some h with ⟨c1, h2⟩ | ⟨c1, h2⟩
  · cases h2
    exact (cnd_t c1 ⟨rfl, rfl⟩)
  · rcases ite_some h2 with ⟨c3, h4⟩ | ⟨c3, h4⟩
    · cases h4
      exact (cnd_f (bfalse c1) (cnd_t c3 ⟨rfl, rfl⟩))
    · cases h4
      exact (cnd_f (bfalse c1) (cnd_f (bfalse c3) ⟨rfl, rfl⟩))
def r03_ints (a : Int) (b : Int) : Int :=
  if (decide (a < b)) = true then
   ((-1 : Int))
  else
   if (decide (a > b)) = true then
    ((1 : Int))
   else
    ((0 : Int))
theorem r03_ints_eq (a : Int) (b : Int) : r03_ints_fn a b = some (r03_ints a b) := by unfold r03_ints_fn r03_ints; repeat (first | rfl | split)
def F_r03_ints : FnC Un := fun args => match args with
  | [x0, x1] => (dI .i64 x0).bind fun a => (dI .i64 x1).bind fun b => some ([], A_r03_ints (r03_ints a b), O_r03_ints (r03_ints a b))
  | _ => none
theorem ok_r03_ints : FnOK 30 F_r03_ints := by
  intro args ob rs os h hob
  unfold F_r03_ints at h
  split at h
  · simp only [Option.bind_eq_some_iff, Option.some.injEq, Prod.mk.injEq] at h
    obtain ⟨a, e0, b, e1, rfl, rfl, rfl⟩ := h
    obtain rfl := dI_eq e0
    obtain rfl := dI_eq e1
    exact ⟨fn_contract (M := M_r03_ints) rfl (tbl_ok (l1 := []) (l2 := []) (l3 := []) (l4 := []) (l5 := []) trivial trivial trivial trivial trivial) Tryd.func30 (by kernel_rfl) N_r03_ints 0 [.d] (fun hwf => r03_ints_run (r03_ints_eq a b)), hasBody_of Tryd.func30 (by kernel_rfl) (by kernel_rfl)⟩
  · simp at h
@[simp] theorem r03_ints_spec (a b : Int) : r03_ints a b = cmpI a b := by
  unfold r03_ints cmpI; simp only [decide_eq_true_eq]
def M_r03_texts : Mc Un := mach (tbl [(30, F_r03_ints)]) (tbl []) (tbl []) (tbl []) (tbl [])
def N_r03_texts : Nat → NS := fun l => (look l [(2, { ts := [true, true, false, false, true, true, false, false, false, false, false, false, false, false, false, false, false, false, false, false, false, false, false, false, false, false, false, false, false, false, false, false, false, false, false, false, false, false, false], bs := [false, false, false, false, false, false, false, false, false, false, false, false, false, false, false, false, false, false, false, false, false, false, false, false, false, false, false, false, false, false, false, false, false, false, false, false, false, false, false], nm := [], gb := [], gs := [] })]).getD ⟨[], [], [], [], [], false⟩
def A_r03_texts (r : Int) : List (A Un) := [.c (.s (.int .i64 r))]
def O_r03_texts (_r : Int) : List (Ob Un) := []
def r03_texts_s2 (a : ByteArray) (b : ByteArray) (v0 : Int) : S Un := (st 39 39 156 0 [(0, AV.one (A.c (C.s (Value.string a)))), (1, AV.one (A.c (C.s (Value.string b)))), (4, AV.one (A.c (C.s (Value.int IntKind.i64 (0 : Int))))), (5, AV.one (A.c (C.s (Value.int IntKind.i64 v0))))] [] [])
def r03_texts_e2_ret (a : ByteArray) (b : ByteArray) (v0 : Int) (v1 : Int) : S Un := (st 39 39 156 0 [(0, AV.one (A.c (C.s (Value.string a)))), (1, AV.one (A.c (C.s (Value.string b)))), (4, AV.one (A.c (C.s (Value.int IntKind.i64 v1)))), (5, AV.one (A.c (C.s (Value.int IntKind.i64 v0))))] [] [])
theorem r03_texts_in (a : ByteArray) (b : ByteArray) (K : List (A Un) → List (Ob Un) → Prop) :
    awp M_r03_texts N_r03_texts (bodyOf Tryd.f39) (entry Tryd.f39.ntmps 0 [.d (.v (cs a)), .d (.v (cs b))]) (retQ M_r03_texts Tryd.f39.results.toList [.d] K) =
(itersK (N_r03_texts 2) (awp M_r03_texts N_r03_texts (sub (bodyOf Tryd.f39) [1, 0, 1, 2, 2])) (ctxK M_r03_texts N_r03_texts (bodyOf Tryd.f39) [1, 0, 1, 2] (retQ M_r03_texts Tryd.f39.results.toList [.d] K)) (r03_texts_s2 a b (0 : Int))) := by kernel_rfl
theorem r03_texts_l2 (a : ByteArray) (b : ByteArray) (v0 : Int) (k : Nat) (Q : Exit → S Un → Prop) :
    iterK (N_r03_texts 2) (awp M_r03_texts N_r03_texts (sub (bodyOf Tryd.f39) [1, 0, 1, 2, 2])) Q (k + 1) (r03_texts_s2 a b v0) =
(cnd (decide (v0 < (↑a.size : Int)))
 (cnd (decide (v0 < (↑b.size : Int)))
  (((0 : Int) ≤ v0 ∧ v0 < (↑a.size : Int)) ∧
  (((0 : Int) ≤ v0 ∧ v0 < (↑b.size : Int)) ∧
  (cnd ((↑(a.toList.getD v0.toNat (0 : UInt8)).toNat : Int) != (↑(b.toList.getD v0.toNat (0 : UInt8)).toNat : Int))
   (((0 : Int) ≤ v0 ∧ v0 < (↑a.size : Int)) ∧
   (((0 : Int) ≤ v0 ∧ v0 < (↑b.size : Int)) ∧
   (Q .ret (r03_texts_e2_ret a b v0 (r03_ints (IntKind.i64.wrap (↑(a.toList.getD v0.toNat (0 : UInt8)).toNat : Int)) (IntKind.i64.wrap (↑(b.toList.getD v0.toNat (0 : UInt8)).toNat : Int)))))))
   (iterK (N_r03_texts 2) (awp M_r03_texts N_r03_texts (sub (bodyOf Tryd.f39) [1, 0, 1, 2, 2])) Q k (r03_texts_s2 a b (IntKind.i64.wrap (v0 + (1 : Int))))))))
  (Q (.exit 0) (r03_texts_s2 a b v0)))
 (Q (.exit 0) (r03_texts_s2 a b v0))) := by kernel_rfl
theorem r03_texts_a2_ret (a : ByteArray) (b : ByteArray) (v0 : Int) (v1 : Int) (K : List (A Un) → List (Ob Un) → Prop) :
    ctxK M_r03_texts N_r03_texts (bodyOf Tryd.f39) [1, 0, 1, 2] (retQ M_r03_texts Tryd.f39.results.toList [.d] K) .ret (r03_texts_e2_ret a b v0 v1) =
(K (A_r03_texts (v1)) (O_r03_texts (v1))) := by kernel_rfl
theorem r03_texts_a2_x0 (a : ByteArray) (b : ByteArray) (v0 : Int) (K : List (A Un) → List (Ob Un) → Prop) :
    ctxK M_r03_texts N_r03_texts (bodyOf Tryd.f39) [1, 0, 1, 2] (retQ M_r03_texts Tryd.f39.results.toList [.d] K) (.exit 0) (r03_texts_s2 a b v0) =
(K (A_r03_texts (r03_ints (↑a.size : Int) (↑b.size : Int))) (O_r03_texts (r03_ints (↑a.size : Int) (↑b.size : Int)))) := by kernel_rfl
def r03_texts_S2 (a : ByteArray) (b : ByteArray) (v : Int) : Option ((Int) ⊕ ((Int × Int) ⊕ (Int))) :=
  if (decide (v < (↑a.size : Int))) = true then
   if (decide (v < (↑b.size : Int))) = true then
    if (0 : Int) ≤ v ∧ v < (↑a.size : Int) then
     if (0 : Int) ≤ v ∧ v < (↑b.size : Int) then
      if ((↑(a.toList.getD v.toNat (0 : UInt8)).toNat : Int) != (↑(b.toList.getD v.toNat (0 : UInt8)).toNat : Int)) = true then
       if (0 : Int) ≤ v ∧ v < (↑a.size : Int) then
        if (0 : Int) ≤ v ∧ v < (↑b.size : Int) then
         some (.inr (.inl (v, (r03_ints (IntKind.i64.wrap (↑(a.toList.getD v.toNat (0 : UInt8)).toNat : Int)) (IntKind.i64.wrap (↑(b.toList.getD v.toNat (0 : UInt8)).toNat : Int))))))
        else none
       else none
      else
       some (.inl (IntKind.i64.wrap (v + (1 : Int))))
     else none
    else none
   else
    some (.inr (.inr v))
  else
   some (.inr (.inr v))
def r03_texts_L2 (a : ByteArray) (b : ByteArray) (v : Int) : Option ((Int × Int) ⊕ (Int)) := loopO (r03_texts_S2 a b) v
theorem r03_texts_L2_eq (a : ByteArray) (b : ByteArray) (v : Int) : r03_texts_L2 a b v = stepB (r03_texts_L2 a b) (r03_texts_S2 a b v) := loopO_eq _ _
def r03_texts_Q2 (a : ByteArray) (b : ByteArray) (r : (Int × Int) ⊕ (Int)) (Q : Exit → S Un → Prop) : Prop := match r with | .inl x => Q .ret (r03_texts_e2_ret a b x.1 x.2) | .inr x => Q (.exit 0) (r03_texts_s2 a b x)
theorem r03_texts_Q2_ret {a : ByteArray} {b : ByteArray} {x : Int × Int} {Q : Exit → S Un → Prop} (h : Q .ret (r03_texts_e2_ret a b x.1 x.2)) : r03_texts_Q2 a b (.inl x) Q := h
theorem r03_texts_Q2_x0 {a : ByteArray} {b : ByteArray} {x : Int} {Q : Exit → S Un → Prop} (h : Q (.exit 0) (r03_texts_s2 a b x)) : r03_texts_Q2 a b (.inr x) Q := h
theorem r03_texts_L2_run {a : ByteArray} {b : ByteArray} {v : Int} {r : (Int × Int) ⊕ (Int)} (h : r03_texts_L2 a b v = some r) (Q : Exit → S Un → Prop) (hQ : r03_texts_Q2 a b r Q) : itersK (N_r03_texts 2) (awp M_r03_texts N_r03_texts (sub (bodyOf Tryd.f39) [1, 0, 1, 2, 2])) Q (r03_texts_s2 a b v) := by
  refine @loop_run _ _ (r03_texts_S2 a b) (fun v => itersK (N_r03_texts 2) (awp M_r03_texts N_r03_texts (sub (bodyOf Tryd.f39) [1, 0, 1, 2, 2])) Q (r03_texts_s2 a b v)) (fun r => r03_texts_Q2 a b r Q) ?_ v r h hQ
  intro v o h hI
  unfold r03_texts_S2 at h
  rcases ite_some h with ⟨c1, h2⟩ | ⟨c1, h2⟩
  · rcases ite_some h2 with ⟨c3, h4⟩ | ⟨c3, h4⟩
    · obtain ⟨c5, h6⟩ := ob_some h4
      obtain ⟨c7, h8⟩ := ob_some h6
      rcases ite_some h8 with ⟨c9, h10⟩ | ⟨c9, h10⟩
      · obtain ⟨c11, h12⟩ := ob_some h10
        obtain ⟨c13, h14⟩ := ob_some h12
        cases h14
        exact itersK_mk 1 (mpr (r03_texts_l2 a b v 0 Q) (cnd_t c1 (cnd_t c3 (And.intro c5 (And.intro c7 (cnd_t c9 (And.intro c11 (And.intro c13 hI))))))))
      · cases h10
        obtain ⟨k15, hk16⟩ := itersK_get hI
        exact itersK_mk (k15 + 1) (mpr (r03_texts_l2 a b v k15 Q) (cnd_t c1 (cnd_t c3 (And.intro c5 (And.intro c7 (cnd_f (bfalse c9) hk16))))))
    · cases h4
      exact itersK_mk 1 (mpr (r03_texts_l2 a b v 0 Q) (cnd_t c1 (cnd_f (bfalse c3) hI)))
  · cases h2
    exact itersK_mk 1 (mpr (r03_texts_l2 a b v 0 Q) (cnd_f (bfalse c1) hI))
def r03_texts_fn (a : ByteArray) (b : ByteArray) : Option (Int) :=
  (r03_texts_L2 a b (0 : Int)) >>= fun o17 => match o17 with
   | .inl o18 =>
     some (o18.2)
   | .inr o19 =>
     some (r03_ints (↑a.size : Int) (↑b.size : Int))
theorem r03_texts_run {a : ByteArray} {b : ByteArray} {r : Int} (h : r03_texts_fn a b = some r) : Runs (awp M_r03_texts N_r03_texts (bodyOf Tryd.f39) (entry Tryd.f39.ntmps 0 [.d (.v (cs a)), .d (.v (cs b))]) (retQ M_r03_texts Tryd.f39.results.toList [.d] fun rs os => rs = A_r03_texts r ∧ os = O_r03_texts r)) := by
  constructor
  rw [r03_texts_in a b (fun rs os => rs = A_r03_texts r ∧ os = O_r03_texts r)]
  unfold r03_texts_fn at h
  obtain ⟨o20, ho21, h22⟩ := bind_some h
  rcases o20 with o23 | o24
  · cases h22
    exact (r03_texts_L2_run ho21 _ (r03_texts_Q2_ret (mpr (r03_texts_a2_ret a b o23.1 o23.2 _) ⟨rfl, rfl⟩)))
  · cases h22
    exact (r03_texts_L2_run ho21 _ (r03_texts_Q2_x0 (mpr (r03_texts_a2_x0 a b o24 _) ⟨rfl, rfl⟩)))
def r03_texts (a b : ByteArray) : Int := cmpS a b
@[simp] theorem r03_texts_eq (a b : ByteArray) : r03_texts a b = cmpS a b := by unfold r03_texts; rfl
theorem r03_texts_loop (a b : ByteArray) (ha : WStr a) (hb : WStr b) : ∀ (ra rb : List UInt8) (i : Nat), a.toList.drop i = ra → b.toList.drop i = rb → i ≤ a.size → i ≤ b.size →
    ∃ o, r03_texts_L2 a b i = some o ∧ (match o with | .inl o => o.2 | .inr _ => cmpI a.size b.size) = cmpL ra rb := by
  intro ra
  induction ra with
  | nil =>
    intro rb i h1 h2 h3 h4
    have e1 := drop_len h1; have e2 := drop_len h2
    rw [toList_size] at e1 e2
    simp only [List.length_nil] at e1
    have hn : ¬ ((i : Int) < a.size) := by omega
    refine ⟨.inr i, by rw [r03_texts_L2_eq, r03_texts_S2]; simp [hn], ?_⟩
    simp only
    cases rb with
    | nil => simp at e2; unfold cmpI cmpL; rw [if_neg (by omega), if_neg (by omega)]
    | cons y rb => simp at e2; unfold cmpI cmpL; rw [if_pos (by omega)]
  | cons x ra ih =>
    intro rb i h1 h2 h3 h4
    obtain ⟨a1, a2, a3, _⟩ := drop_cons h1
    rw [toList_size] at a1
    have hp : (i : Int) < a.size := by omega
    cases rb with
    | nil =>
      have e2 := drop_len h2
      rw [toList_size] at e2
      simp only [List.length_nil] at e2
      have hn : ¬ ((i : Int) < b.size) := by omega
      refine ⟨.inr i, by rw [r03_texts_L2_eq, r03_texts_S2]; simp [hn, hp], ?_⟩
      simp only; unfold cmpI cmpL; rw [if_neg (by omega), if_pos (by omega)]
    | cons y rb =>
      obtain ⟨b1, b2, b3, _⟩ := drop_cons h2
      rw [toList_size] at b1
      have hq : (i : Int) < b.size := by omega
      have hi : (0 : Int) ≤ i := by omega
      rw [r03_texts_L2_eq, r03_texts_S2]
      simp only [hp, hq, hi, decide_true, if_true, true_and, and_self, Int.toNat_natCast, a2, b2]
      by_cases hxy : x = y
      · subst hxy
        simp only [bne_self_eq_false, Bool.false_eq_true, if_false]
        rw [wrap_succ a1 ha]
        simpa only [cmpL, if_true, stepB_inl] using ih rb (i + 1) a3 b3 (by omega) (by omega)
      · have hne : ((x.toNat : Int) != (y.toNat : Int)) = true := by
          rw [bne_iff_ne]; intro e; exact hxy (UInt8.toNat_inj.1 (by omega))
        have hx := x.toNat_lt; have hy := y.toNat_lt
        refine ⟨_, by rw [if_pos hne, stepB_inr], ?_⟩
        simp only [cmpL, hxy, if_false, r03_ints_spec]
        rw [wrap_id (by omega), wrap_id (by omega)]
theorem r03_texts_spec (a b : ByteArray) (ha : WStr a) (hb : WStr b) : r03_texts_fn a b = some (r03_texts a b) := by
  obtain ⟨o, ho, e⟩ := r03_texts_loop a b ha hb _ _ 0 rfl rfl (by omega) (by omega)
  unfold r03_texts_fn r03_texts cmpS
  rw [show (0 : Int) = ((0 : Nat) : Int) from rfl, ho]
  simp only [List.drop_zero] at e
  rw [← e]
  cases o <;> simp
def F_r03_texts : FnC Un := fun args => match args with
  | [x0, x1] => (dStr x0).bind fun a => (dStr x1).bind fun b => some ([], A_r03_texts (r03_texts a b), O_r03_texts (r03_texts a b))
  | _ => none
theorem ok_r03_texts : FnOK 39 F_r03_texts := by
  intro args ob rs os h hob
  unfold F_r03_texts at h
  split at h
  · simp only [Option.bind_eq_some_iff, Option.some.injEq, Prod.mk.injEq] at h
    obtain ⟨a, e0, b, e1, rfl, rfl, rfl⟩ := h
    obtain rfl := dStr_eq e0
    obtain rfl := dStr_eq e1
    exact ⟨fn_contract (M := M_r03_texts) rfl (tbl_ok (l1 := [(30, F_r03_ints)]) (l2 := []) (l3 := []) (l4 := []) (l5 := []) ⟨ok_r03_ints, trivial⟩ trivial trivial trivial trivial) Tryd.func39 (by kernel_rfl) N_r03_texts 0 [.d] (fun hwf => r03_texts_run (r03_texts_spec a b (wfArg hwf (a := .d (.v (cs a))) (List.mem_of_getElem? (i := 0) rfl)) (wfArg hwf (a := .d (.v (cs b))) (List.mem_of_getElem? (i := 1) rfl)))), hasBody_of Tryd.func39 (by kernel_rfl) (by kernel_rfl)⟩
  · simp at h
def M_r03_Order : Mc Un := mach (tbl [(30, F_r03_ints), (39, F_r03_texts)]) (tbl []) (tbl []) (tbl []) (tbl [])
def N_r03_Order : Nat → NS := fun l => (look l []).getD ⟨[], [], [], [], [], false⟩
def A_r03_Order (r : Int) : List (A Un) := [.c (.s (.int .i64 r))]
def O_r03_Order (_r : Int) : List (Ob Un) := []
theorem r03_Order_in (a : Val) (b : Val) (K : List (A Un) → List (Ob Un) → Prop) :
    awp M_r03_Order N_r03_Order (bodyOf Tryd.f29) (entry Tryd.f29.ntmps 0 [.d (.agg (enc Ty.val a)), .d (.agg (enc Ty.val b))]) (retQ M_r03_Order Tryd.f29.results.toList [.d] K) =
(cnd (a.kind != b.kind)
 (K (A_r03_Order (r03_ints a.kind b.kind)) (O_r03_Order (r03_ints a.kind b.kind)))
 (cnd (a.n != b.n)
  (K (A_r03_Order (r03_ints a.n b.n)) (O_r03_Order (r03_ints a.n b.n)))
  (K (A_r03_Order (r03_texts a.s b.s)) (O_r03_Order (r03_texts a.s b.s))))) := by kernel_rfl
def r03_Order_fn (a : Val) (b : Val) : Option (Int) :=
  if (a.kind != b.kind) = true then
   some (r03_ints a.kind b.kind)
  else
   if (a.n != b.n) = true then
    some (r03_ints a.n b.n)
   else
    some (r03_texts a.s b.s)
theorem r03_Order_run {a : Val} {b : Val} {r : Int} (h : r03_Order_fn a b = some r) : Runs (awp M_r03_Order N_r03_Order (bodyOf Tryd.f29) (entry Tryd.f29.ntmps 0 [.d (.agg (enc Ty.val a)), .d (.agg (enc Ty.val b))]) (retQ M_r03_Order Tryd.f29.results.toList [.d] fun rs os => rs = A_r03_Order r ∧ os = O_r03_Order r)) := by
  constructor
  rw [r03_Order_in a b (fun rs os => rs = A_r03_Order r ∧ os = O_r03_Order r)]
  unfold r03_Order_fn at h
  rcases ite_some h with ⟨c1, h2⟩ | ⟨c1, h2⟩
  · cases h2
    exact (cnd_t c1 ⟨rfl, rfl⟩)
  · rcases ite_some h2 with ⟨c3, h4⟩ | ⟨c3, h4⟩
    · cases h4
      exact (cnd_f (bfalse c1) (cnd_t c3 ⟨rfl, rfl⟩))
    · cases h4
      exact (cnd_f (bfalse c1) (cnd_f (bfalse c3) ⟨rfl, rfl⟩))
def r03_Order (a b : Val) : Int := ordV a b
@[simp] theorem r03_Order_eq (a b : Val) : r03_Order a b = ordV a b := by unfold r03_Order; rfl
theorem r03_Order_spec (a b : Val) (_ha : WS .val a) (_hb : WS .val b) : r03_Order_fn a b = some (r03_Order a b) := by
  unfold r03_Order_fn r03_Order ordV
  simp only [bne_iff_ne, ne_eq, ite_not, r03_ints_spec, r03_texts_eq]
  split
  · split <;> rfl
  · rfl
def F_r03_Order : FnC Un := fun args => match args with
  | [x0, x1] => (dS .val x0).bind fun a => (dS .val x1).bind fun b => some ([], A_r03_Order (r03_Order a b), O_r03_Order (r03_Order a b))
  | _ => none
theorem ok_r03_Order : FnOK 29 F_r03_Order := by
  intro args ob rs os h hob
  unfold F_r03_Order at h
  split at h
  · simp only [Option.bind_eq_some_iff, Option.some.injEq, Prod.mk.injEq] at h
    obtain ⟨a, e0, b, e1, rfl, rfl, rfl⟩ := h
    obtain rfl := dS_eq e0
    obtain rfl := dS_eq e1
    exact ⟨fn_contract (M := M_r03_Order) rfl (tbl_ok (l1 := [(30, F_r03_ints), (39, F_r03_texts)]) (l2 := []) (l3 := []) (l4 := []) (l5 := []) ⟨ok_r03_ints, ok_r03_texts, trivial⟩ trivial trivial trivial trivial) Tryd.func29 (by kernel_rfl) N_r03_Order 0 [.d] (fun hwf => r03_Order_run (r03_Order_spec a b (wfArg hwf (a := .d (.agg (enc Ty.val a))) (List.mem_of_getElem? (i := 0) rfl)) (wfArg hwf (a := .d (.agg (enc Ty.val b))) (List.mem_of_getElem? (i := 1) rfl)))), hasBody_of Tryd.func29 (by kernel_rfl) (by kernel_rfl)⟩
  · simp at h
def M_r03_Orders : Mc Un := mach (tbl [(29, F_r03_Order), (30, F_r03_ints)]) (tbl []) (tbl []) (tbl []) (tbl [])
def N_r03_Orders : Nat → NS := fun l => (look l [(2, { ts := [true, true, false, false, true, true, false, false, false, false, false, false, false, false, false, false, false, false, false, false, false, false, false, false, false, false, false, false, false, false, false, false, false, false, false, false, false, false, false, false, false, false], bs := [false, false, false, false, false, false, false, false, false, false, false, false, false, false, false, false, false, false, false, false, false, false, false, false, false, false, false, false, false, false, false, false, false, false, false, false, false, false, false, false, false, false], nm := [], gb := [], gs := [] })]).getD ⟨[], [], [], [], [], false⟩
def A_r03_Orders (r : Int) : List (A Un) := [.c (.s (.int .i64 r))]
def O_r03_Orders (_r : Int) : List (Ob Un) := []
def r03_Orders_s2 (a : List Val) (b : List Val) (v0 : Int) : S Un := (st 42 42 168 0 [(0, AV.one (A.c (C.sl Ty.val a false))), (1, AV.one (A.c (C.sl Ty.val b false))), (4, AV.one (A.c (C.s (Value.int IntKind.i64 (0 : Int))))), (5, AV.one (A.c (C.s (Value.int IntKind.i64 v0))))] [] [])
def r03_Orders_e2_ret (a : List Val) (b : List Val) (v0 : Int) (v1 : Int) : S Un := (st 42 42 168 0 [(0, AV.one (A.c (C.sl Ty.val a false))), (1, AV.one (A.c (C.sl Ty.val b false))), (4, AV.one (A.c (C.s (Value.int IntKind.i64 v1)))), (5, AV.one (A.c (C.s (Value.int IntKind.i64 v0))))] [] [])
theorem r03_Orders_in (a : List Val) (b : List Val) (K : List (A Un) → List (Ob Un) → Prop) :
    awp M_r03_Orders N_r03_Orders (bodyOf Tryd.f19) (entry Tryd.f19.ntmps 0 [.d (.v (.dat (U := Un) Ty.val a)), .d (.v (.dat (U := Un) Ty.val b))]) (retQ M_r03_Orders Tryd.f19.results.toList [.d] K) =
(itersK (N_r03_Orders 2) (awp M_r03_Orders N_r03_Orders (sub (bodyOf Tryd.f19) [1, 0, 1, 2, 2])) (ctxK M_r03_Orders N_r03_Orders (bodyOf Tryd.f19) [1, 0, 1, 2] (retQ M_r03_Orders Tryd.f19.results.toList [.d] K)) (r03_Orders_s2 a b (0 : Int))) := by kernel_rfl
theorem r03_Orders_l2 (a : List Val) (b : List Val) (v0 : Int) (k : Nat) (Q : Exit → S Un → Prop) :
    iterK (N_r03_Orders 2) (awp M_r03_Orders N_r03_Orders (sub (bodyOf Tryd.f19) [1, 0, 1, 2, 2])) Q (k + 1) (r03_Orders_s2 a b v0) =
(cnd (decide (v0 < (↑a.length : Int)))
 (cnd (decide (v0 < (↑b.length : Int)))
  (((0 : Int) ≤ v0 ∧ v0 < (↑a.length : Int)) ∧
  (((0 : Int) ≤ v0 ∧ v0 < (↑b.length : Int)) ∧
  (cnd (r03_Order (a.getD v0.toNat zeroVal) (b.getD v0.toNat zeroVal) != (0 : Int))
   (((0 : Int) ≤ v0 ∧ v0 < (↑a.length : Int)) ∧
   (((0 : Int) ≤ v0 ∧ v0 < (↑b.length : Int)) ∧
   (Q .ret (r03_Orders_e2_ret a b v0 (r03_Order (a.getD v0.toNat zeroVal) (b.getD v0.toNat zeroVal))))))
   (iterK (N_r03_Orders 2) (awp M_r03_Orders N_r03_Orders (sub (bodyOf Tryd.f19) [1, 0, 1, 2, 2])) Q k (r03_Orders_s2 a b (IntKind.i64.wrap (v0 + (1 : Int))))))))
  (Q (.exit 0) (r03_Orders_s2 a b v0)))
 (Q (.exit 0) (r03_Orders_s2 a b v0))) := by kernel_rfl
theorem r03_Orders_a2_ret (a : List Val) (b : List Val) (v0 : Int) (v1 : Int) (K : List (A Un) → List (Ob Un) → Prop) :
    ctxK M_r03_Orders N_r03_Orders (bodyOf Tryd.f19) [1, 0, 1, 2] (retQ M_r03_Orders Tryd.f19.results.toList [.d] K) .ret (r03_Orders_e2_ret a b v0 v1) =
(K (A_r03_Orders (v1)) (O_r03_Orders (v1))) := by kernel_rfl
theorem r03_Orders_a2_x0 (a : List Val) (b : List Val) (v0 : Int) (K : List (A Un) → List (Ob Un) → Prop) :
    ctxK M_r03_Orders N_r03_Orders (bodyOf Tryd.f19) [1, 0, 1, 2] (retQ M_r03_Orders Tryd.f19.results.toList [.d] K) (.exit 0) (r03_Orders_s2 a b v0) =
(K (A_r03_Orders (r03_ints (↑a.length : Int) (↑b.length : Int))) (O_r03_Orders (r03_ints (↑a.length : Int) (↑b.length : Int)))) := by kernel_rfl
def r03_Orders_S2 (a : List Val) (b : List Val) (v : Int) : Option ((Int) ⊕ ((Int × Int) ⊕ (Int))) :=
  if (decide (v < (↑a.length : Int))) = true then
   if (decide (v < (↑b.length : Int))) = true then
    if (0 : Int) ≤ v ∧ v < (↑a.length : Int) then
     if (0 : Int) ≤ v ∧ v < (↑b.length : Int) then
      if (r03_Order (a.getD v.toNat zeroVal) (b.getD v.toNat zeroVal) != (0 : Int)) = true then
       if (0 : Int) ≤ v ∧ v < (↑a.length : Int) then
        if (0 : Int) ≤ v ∧ v < (↑b.length : Int) then
         some (.inr (.inl (v, (r03_Order (a.getD v.toNat zeroVal) (b.getD v.toNat zeroVal)))))
        else none
       else none
      else
       some (.inl (IntKind.i64.wrap (v + (1 : Int))))
     else none
    else none
   else
    some (.inr (.inr v))
  else
   some (.inr (.inr v))
def r03_Orders_L2 (a : List Val) (b : List Val) (v : Int) : Option ((Int × Int) ⊕ (Int)) := loopO (r03_Orders_S2 a b) v
theorem r03_Orders_L2_eq (a : List Val) (b : List Val) (v : Int) : r03_Orders_L2 a b v = stepB (r03_Orders_L2 a b) (r03_Orders_S2 a b v) := loopO_eq _ _
def r03_Orders_Q2 (a : List Val) (b : List Val) (r : (Int × Int) ⊕ (Int)) (Q : Exit → S Un → Prop) : Prop := match r with | .inl x => Q .ret (r03_Orders_e2_ret a b x.1 x.2) | .inr x => Q (.exit 0) (r03_Orders_s2 a b x)
theorem r03_Orders_Q2_ret {a : List Val} {b : List Val} {x : Int × Int} {Q : Exit → S Un → Prop} (h : Q .ret (r03_Orders_e2_ret a b x.1 x.2)) : r03_Orders_Q2 a b (.inl x) Q := h
theorem r03_Orders_Q2_x0 {a : List Val} {b : List Val} {x : Int} {Q : Exit → S Un → Prop} (h : Q (.exit 0) (r03_Orders_s2 a b x)) : r03_Orders_Q2 a b (.inr x) Q := h
theorem r03_Orders_L2_run {a : List Val} {b : List Val} {v : Int} {r : (Int × Int) ⊕ (Int)} (h : r03_Orders_L2 a b v = some r) (Q : Exit → S Un → Prop) (hQ : r03_Orders_Q2 a b r Q) : itersK (N_r03_Orders 2) (awp M_r03_Orders N_r03_Orders (sub (bodyOf Tryd.f19) [1, 0, 1, 2, 2])) Q (r03_Orders_s2 a b v) := by
  refine @loop_run _ _ (r03_Orders_S2 a b) (fun v => itersK (N_r03_Orders 2) (awp M_r03_Orders N_r03_Orders (sub (bodyOf Tryd.f19) [1, 0, 1, 2, 2])) Q (r03_Orders_s2 a b v)) (fun r => r03_Orders_Q2 a b r Q) ?_ v r h hQ
  intro v o h hI
  unfold r03_Orders_S2 at h
  rcases ite_some h with ⟨c1, h2⟩ | ⟨c1, h2⟩
  · rcases ite_some h2 with ⟨c3, h4⟩ | ⟨c3, h4⟩
    · obtain ⟨c5, h6⟩ := ob_some h4
      obtain ⟨c7, h8⟩ := ob_some h6
      rcases ite_some h8 with ⟨c9, h10⟩ | ⟨c9, h10⟩
      · obtain ⟨c11, h12⟩ := ob_some h10
        obtain ⟨c13, h14⟩ := ob_some h12
        cases h14
        exact itersK_mk 1 (mpr (r03_Orders_l2 a b v 0 Q) (cnd_t c1 (cnd_t c3 (And.intro c5 (And.intro c7 (cnd_t c9 (And.intro c11 (And.intro c13 hI))))))))
      · cases h10
        obtain ⟨k15, hk16⟩ := itersK_get hI
        exact itersK_mk (k15 + 1) (mpr (r03_Orders_l2 a b v k15 Q) (cnd_t c1 (cnd_t c3 (And.intro c5 (And.intro c7 (cnd_f (bfalse c9) hk16))))))
    · cases h4
      exact itersK_mk 1 (mpr (r03_Orders_l2 a b v 0 Q) (cnd_t c1 (cnd_f (bfalse c3) hI)))
  · cases h2
    exact itersK_mk 1 (mpr (r03_Orders_l2 a b v 0 Q) (cnd_f (bfalse c1) hI))
def r03_Orders_fn (a : List Val) (b : List Val) : Option (Int) :=
  (r03_Orders_L2 a b (0 : Int)) >>= fun o17 => match o17 with
   | .inl o18 =>
     some (o18.2)
   | .inr o19 =>
     some (r03_ints (↑a.length : Int) (↑b.length : Int))
theorem r03_Orders_run {a : List Val} {b : List Val} {r : Int} (h : r03_Orders_fn a b = some r) : Runs (awp M_r03_Orders N_r03_Orders (bodyOf Tryd.f19) (entry Tryd.f19.ntmps 0 [.d (.v (.dat (U := Un) Ty.val a)), .d (.v (.dat (U := Un) Ty.val b))]) (retQ M_r03_Orders Tryd.f19.results.toList [.d] fun rs os => rs = A_r03_Orders r ∧ os = O_r03_Orders r)) := by
  constructor
  rw [r03_Orders_in a b (fun rs os => rs = A_r03_Orders r ∧ os = O_r03_Orders r)]
  unfold r03_Orders_fn at h
  obtain ⟨o20, ho21, h22⟩ := bind_some h
  rcases o20 with o23 | o24
  · cases h22
    exact (r03_Orders_L2_run ho21 _ (r03_Orders_Q2_ret (mpr (r03_Orders_a2_ret a b o23.1 o23.2 _) ⟨rfl, rfl⟩)))
  · cases h22
    exact (r03_Orders_L2_run ho21 _ (r03_Orders_Q2_x0 (mpr (r03_Orders_a2_x0 a b o24 _) ⟨rfl, rfl⟩)))
def r03_Orders (a b : List Val) : Int := ordR a b
@[simp] theorem r03_Orders_eq (a b : List Val) : r03_Orders a b = ordR a b := by unfold r03_Orders; rfl
theorem r03_Orders_loop (a b : List Val) (ha : WL .val a) (hb : WL .val b) : ∀ (ra rb : List Val) (i : Nat), a.drop i = ra → b.drop i = rb → i ≤ a.length → i ≤ b.length →
    ∃ o, r03_Orders_L2 a b i = some o ∧ (match o with | .inl o => o.2 | .inr _ => cmpI a.length b.length) = ordR ra rb := by
  intro ra
  induction ra with
  | nil =>
    intro rb i h1 h2 h3 h4
    have e1 := drop_len h1; have e2 := drop_len h2
    simp only [List.length_nil] at e1
    have hn : ¬ ((i : Int) < a.length) := by omega
    refine ⟨.inr i, by rw [r03_Orders_L2_eq, r03_Orders_S2]; simp [hn], ?_⟩
    simp only
    cases rb with
    | nil => simp at e2; unfold cmpI ordR; rw [if_neg (by omega), if_neg (by omega)]
    | cons y rb => simp at e2; unfold cmpI ordR; rw [if_pos (by omega)]
  | cons x ra ih =>
    intro rb i h1 h2 h3 h4
    obtain ⟨a1, a2, a3, _⟩ := drop_cons h1
    have hp : (i : Int) < a.length := by omega
    cases rb with
    | nil =>
      have e2 := drop_len h2
      simp only [List.length_nil] at e2
      have hn : ¬ ((i : Int) < b.length) := by omega
      refine ⟨.inr i, by rw [r03_Orders_L2_eq, r03_Orders_S2]; simp [hn, hp], ?_⟩
      simp only; unfold cmpI ordR; rw [if_neg (by omega), if_pos (by omega)]
    | cons y rb =>
      obtain ⟨b1, b2, b3, _⟩ := drop_cons h2
      have hq : (i : Int) < b.length := by omega
      have hi : (0 : Int) ≤ i := by omega
      rw [r03_Orders_L2_eq, r03_Orders_S2]
      simp only [hp, hq, hi, decide_true, if_true, true_and, and_self, Int.toNat_natCast, a2, b2, bne_iff_ne, ne_eq, ite_not, r03_Order_eq]
      by_cases hxy : ordV x y = 0
      · rw [if_pos hxy, wrap_succ a1 ha.len]
        simpa only [ordR, hxy, if_true, stepB_inl] using ih rb (i + 1) a3 b3 (by omega) (by omega)
      · exact ⟨_, by rw [if_neg hxy, stepB_inr], by simp only [ordR, hxy, if_false]⟩
theorem r03_Orders_spec (a b : List Val) (ha : WL .val a) (hb : WL .val b) : r03_Orders_fn a b = some (r03_Orders a b) := by
  obtain ⟨o, ho, e⟩ := r03_Orders_loop a b ha hb _ _ 0 rfl rfl (by omega) (by omega)
  unfold r03_Orders_fn r03_Orders
  rw [show (0 : Int) = ((0 : Nat) : Int) from rfl, ho]
  simp only [List.drop_zero] at e
  rw [← e]
  cases o <;> simp
def F_r03_Orders : FnC Un := fun args => match args with
  | [x0, x1] => (dL .val x0).bind fun a => (dL .val x1).bind fun b => some ([], A_r03_Orders (r03_Orders a b), O_r03_Orders (r03_Orders a b))
  | _ => none
theorem ok_r03_Orders : FnOK 19 F_r03_Orders := by
  intro args ob rs os h hob
  unfold F_r03_Orders at h
  split at h
  · simp only [Option.bind_eq_some_iff, Option.some.injEq, Prod.mk.injEq] at h
    obtain ⟨a, e0, b, e1, rfl, rfl, rfl⟩ := h
    obtain rfl := dL_eq e0
    obtain rfl := dL_eq e1
    exact ⟨fn_contract (M := M_r03_Orders) rfl (tbl_ok (l1 := [(29, F_r03_Order), (30, F_r03_ints)]) (l2 := []) (l3 := []) (l4 := []) (l5 := []) ⟨ok_r03_Order, ok_r03_ints, trivial⟩ trivial trivial trivial trivial) Tryd.func19 (by kernel_rfl) N_r03_Orders 0 [.d] (fun hwf => r03_Orders_run (r03_Orders_spec a b (wfArg hwf (a := .d (.v (.dat (U := Un) Ty.val a))) (List.mem_of_getElem? (i := 0) rfl)) (wfArg hwf (a := .d (.v (.dat (U := Un) Ty.val b))) (List.mem_of_getElem? (i := 1) rfl)))), hasBody_of Tryd.func19 (by kernel_rfl) (by kernel_rfl)⟩
  · simp at h
end
end Go.Proofs.YtfdnnfbbjiglcaaDoor.B
namespace Go.Proofs.YtfdnnfbbjiglcaaDoor.B
open Go Go.RowKit
set_option maxRecDepth 100000
noncomputable section
attribute [local irreducible] awp ctxK itersK iterK retQ retGQ awf ctxF loopF
section
variable {K : Type} [DecidableEq K] (key : Int → K)
def gAt (x : K) (out : List (List Int)) : Nat := out.findIdx fun g => decide (key (g.headD 0) = x)
def gAdd (out : List (List Int)) (k : Nat) (i : Int) : List (List Int) := if k < out.length then out.set k (out.getD k [] ++ [i]) else out ++ [[i]]
def gStep (out : List (List Int)) (i : Nat) : List (List Int) := gAdd out (gAt key (key (i : Int)) out) (i : Int)
def gRun (n : Nat) : List (List Int) := (List.range n).foldl (gStep key) []
structure GI (n : Nat) (out : List (List Int)) : Prop where
  ne : ∀ k, k < out.length → out.getD k [] ≠ []
  mem : ∀ k p, p ∈ out.getD k [] → 0 ≤ p ∧ p < (n : Int) ∧ key p = key ((out.getD k []).headD 0)
  dis : ∀ j k, j < out.length → k < out.length → key ((out.getD j []).headD 0) = key ((out.getD k []).headD 0) → j = k
  all : ∀ p : Int, 0 ≤ p → p < (n : Int) → ∃ k, k < out.length ∧ p ∈ out.getD k []
  inc : ∀ k, (out.getD k []).Pairwise (· < ·)
theorem getD_set' {α : Type} (l : List α) (i j : Nat) (x d : α) (hi : i < l.length) : (l.set i x).getD j d = if j = i then x else l.getD j d := by
  rw [List.getD_eq_getElem?_getD, List.getD_eq_getElem?_getD, List.getElem?_set]
  by_cases h : j = i
  · subst h; rw [if_pos rfl, if_pos hi, if_pos rfl]; rfl
  · rw [if_neg (fun e => h e.symm), if_neg h]
theorem getD_snoc (out : List (List Int)) (g : List Int) (j : Nat) : (out ++ [g]).getD j [] = if j = out.length then g else out.getD j [] := by
  rw [List.getD_eq_getElem?_getD, List.getD_eq_getElem?_getD]
  by_cases h : j = out.length
  · subst h; rw [if_pos rfl, List.getElem?_append_right (Nat.le_refl _), Nat.sub_self]; rfl
  · rw [if_neg h]
    by_cases h2 : j < out.length
    · rw [List.getElem?_append_left h2]
    · rw [List.getElem?_eq_none (by rw [List.length_append, List.length_singleton]; omega), List.getElem?_eq_none (by omega)]
theorem gAt_lt {x : K} {out : List (List Int)} (h : gAt key x out < out.length) : key ((out.getD (gAt key x out) []).headD 0) = x := by
  unfold gAt at h ⊢
  have := List.findIdx_getElem (p := fun g : List Int => decide (key (g.headD 0) = x)) (xs := out) (w := h)
  rw [decide_eq_true_eq] at this
  rw [List.getD_eq_getElem?_getD, List.getElem?_eq_getElem h]
  exact this
theorem gAt_not {x : K} {out : List (List Int)} (h : ¬ gAt key x out < out.length) : ∀ k, k < out.length → key ((out.getD k []).headD 0) ≠ x := by
  intro k hk e
  unfold gAt at h
  have h2 : k < out.findIdx (fun g => decide (key (g.headD 0) = x)) := by omega
  have h3 := List.not_of_lt_findIdx h2
  rw [List.getD_eq_getElem?_getD, List.getElem?_eq_getElem hk] at e
  rw [decide_eq_false (fun e2 => ?_)] at h3 <;> skip
  all_goals simp_all
theorem gAt_eq {n : Nat} {out : List (List Int)} (h : GI key n out) {x : K} {k : Nat} (hk : k < out.length) (hx : key ((out.getD k []).headD 0) = x) : gAt key x out = k := by
  by_cases hl : gAt key x out < out.length
  · exact h.dis _ _ hl hk ((gAt_lt key hl).trans hx.symm)
  · exact (gAt_not key hl k hk hx).elim
theorem GI.nil : GI key 0 [] := (fun (_ : DecidableEq K) => ⟨fun k h => by simp at h, fun k p h => by simp at h, fun j k h => by simp at h, fun p h0 h1 => by omega, fun k => by simp⟩) inferInstance
theorem GI.step {n : Nat} {out : List (List Int)} (h : GI key n out) : GI key (n + 1) (gStep key out n) := by
  unfold gStep gAdd
  by_cases hl : gAt key (key (n : Int)) out < out.length
  · rw [if_pos hl]
    have hx := gAt_lt key hl
    obtain ⟨g, hg⟩ : ∃ g, g = gAt key (key (n : Int)) out := ⟨_, rfl⟩
    rw [← hg] at hl hx ⊢
    have hne := h.ne g hl
    have hd : (out.getD g [] ++ [(n : Int)]).headD 0 = (out.getD g []).headD 0 := by
      cases hc : out.getD g [] with
      | nil => exact (hne hc).elim
      | cons a l => rfl
    have hget : ∀ j, (out.set g (out.getD g [] ++ [(n : Int)])).getD j [] = if j = g then out.getD g [] ++ [(n : Int)] else out.getD j [] := fun j => getD_set' _ _ _ _ _ hl
    have hhd : ∀ j, ((out.set g (out.getD g [] ++ [(n : Int)])).getD j []).headD 0 = (out.getD j []).headD 0 := fun j => by
      rw [hget]
      by_cases e : j = g
      · rw [if_pos e, hd, e]
      · rw [if_neg e]
    refine ⟨fun k hk => ?_, fun k p hp => ?_, fun j k hj hk e => ?_, fun p h0 h1 => ?_, fun k => ?_⟩
    · rw [List.length_set] at hk
      rw [hget]
      split
      · simp
      · exact h.ne k hk
    · rw [hhd]
      rw [hget] at hp
      split at hp
      · rename_i e
        rw [e]
        rcases List.mem_append.1 hp with hp | hp
        · obtain ⟨a, b, c⟩ := h.mem g p hp; exact ⟨a, by omega, c⟩
        · rw [List.mem_singleton] at hp; subst hp; exact ⟨by omega, by omega, hx.symm⟩
      · obtain ⟨a, b, c⟩ := h.mem k p hp; exact ⟨a, by omega, c⟩
    · rw [List.length_set] at hj hk
      rw [hhd, hhd] at e
      exact h.dis j k hj hk e
    · by_cases e : p = (n : Int)
      · exact ⟨g, by rw [List.length_set]; exact hl, by rw [hget, if_pos rfl, e]; simp⟩
      · obtain ⟨k, hk, hm⟩ := h.all p h0 (by omega)
        refine ⟨k, by rw [List.length_set]; exact hk, ?_⟩
        rw [hget]
        split
        · rename_i e2; subst e2; exact List.mem_append_left _ hm
        · exact hm
    · rw [hget]
      split
      · refine List.pairwise_append.2 ⟨h.inc g, by simp, fun a ha b hb => ?_⟩
        rw [List.mem_singleton] at hb
        have := (h.mem g a ha).2.1
        omega
      · exact h.inc k
  · rw [if_neg hl]
    have hno := gAt_not key hl
    refine ⟨fun k hk => ?_, fun k p hp => ?_, fun j k hj hk e => ?_, fun p h0 h1 => ?_, fun k => ?_⟩
    · rw [List.length_append, List.length_singleton] at hk
      rw [getD_snoc]
      split
      · simp
      · exact h.ne k (by omega)
    · rw [getD_snoc] at hp ⊢
      split at hp
      · rename_i e
        rw [if_pos e]
        rw [List.mem_singleton] at hp; subst hp
        exact ⟨by omega, by omega, rfl⟩
      · rename_i e
        rw [if_neg e]
        obtain ⟨a, b, c⟩ := h.mem k p hp; exact ⟨a, by omega, c⟩
    · rw [List.length_append, List.length_singleton] at hj hk
      rw [getD_snoc, getD_snoc] at e
      by_cases ej : j = out.length
      · by_cases ek : k = out.length
        · omega
        · rw [if_pos ej, if_neg ek] at e
          exact (hno k (by omega) e.symm).elim
      · by_cases ek : k = out.length
        · rw [if_neg ej, if_pos ek] at e
          exact (hno j (by omega) e).elim
        · rw [if_neg ej, if_neg ek] at e
          exact h.dis j k (by omega) (by omega) e
    · by_cases e : p = (n : Int)
      · exact ⟨out.length, by simp, by rw [getD_snoc, if_pos rfl, e]; simp⟩
      · obtain ⟨k, hk, hm⟩ := h.all p h0 (by omega)
        exact ⟨k, by simp; omega, by rw [getD_snoc, if_neg (by omega)]; exact hm⟩
    · rw [getD_snoc]
      split
      · simp
      · exact h.inc k
theorem pw_len : ∀ (l : List Int) (n : Nat), l.Pairwise (· < ·) → (∀ p ∈ l, 0 ≤ p ∧ p < (n : Int)) → l.length ≤ n := by
  intro l n
  induction n generalizing l with
  | zero =>
    intro _ h
    cases l with
    | nil => simp
    | cons a r => have := h a List.mem_cons_self; omega
  | succ n ih =>
    intro hp h
    rcases List.eq_nil_or_concat l with rfl | ⟨r, a, rfl⟩
    · simp
    · rw [List.concat_eq_append] at hp h ⊢
      obtain ⟨h1, _, h3⟩ := List.pairwise_append.1 hp
      have ha := h a (by simp)
      have := ih r h1 fun p hp => by
        have q1 := h p (by simp [hp])
        have q2 := h3 p hp a (by simp)
        omega
      simp; omega
theorem GI.len {n : Nat} {out : List (List Int)} (h : GI key n out) (k : Nat) : (out.getD k []).length ≤ n :=
  (fun (_ : DecidableEq K) => pw_len _ n (h.inc k) fun p hp => by obtain ⟨a, b, _⟩ := h.mem k p hp; exact ⟨a, b⟩) inferInstance
theorem gRun_ok : ∀ n, GI key n (gRun key n)
  | 0 => GI.nil key
  | n + 1 => by
    unfold gRun
    rw [List.range_succ, List.foldl_append, List.foldl_cons, List.foldl_nil]
    exact GI.step key (gRun_ok n)
end
noncomputable instance valsDec : DecidableEq (List Val) := fun a b => Classical.propDecidable (a = b)
def keyAt (keys : List (List Val)) (p : Int) : List Val := keys.getD p.toNat []
noncomputable def r33_Groups (keys : List (List Val)) : List (List Int) := gRun (keyAt keys) keys.length
theorem gRun_len {K : Type} [DecidableEq K] (key : Int → K) : ∀ n, (gRun key n).length ≤ n
  | 0 => Nat.le_refl _
  | n + 1 => by
    have := gRun_len key n
    unfold gRun at this ⊢
    rw [List.range_succ, List.foldl_append, List.foldl_cons, List.foldl_nil]
    generalize (List.range n).foldl (gStep key) [] = out at this ⊢
    unfold gStep gAdd
    split
    · rw [List.length_set]; omega
    · rw [List.length_append, List.length_singleton]; omega
end
end Go.Proofs.YtfdnnfbbjiglcaaDoor.B
namespace Go.Proofs.YtfdnnfbbjiglcaaDoor.B
open Go Go.RowKit
set_option maxRecDepth 1000000
set_option linter.unusedVariables false
noncomputable section
def cellsI (g : List Int) : Nat × List Value := (g.length, g.map (Value.int .i64))
structure R33 (w : World) (keys : List (List Val)) (i : Nat) (v : Value) (cs : List Value) (wr : World) : Prop where
  ext : Ext w wr
  nest : Nest wr w.heap.size 30 3 1 0 1 v cs ((gRun (keyAt keys) i).map cellsI)
theorem grown_of_ext {w w' : World} (h : Ext w w') : w.grownBy w' none := ⟨h.os, h.tape, h.output, h.size, fun k hk _ => Below.block h k hk⟩
theorem ext_grown {w W W5 : World} {row : Option Nat} (hx : Ext w W) (hg : W.grownBy W5 row) (hr : ∀ b, row = some b → w.heap.size ≤ b) : Ext w W5 :=
  Below.trans hx ⟨hg.os, hg.tape, hg.output, hg.size, fun k hk => hg.block k (Nat.lt_of_lt_of_le hk hx.size) (fun e => by have := hr k e.symm; omega)⟩
theorem gRun_succ {K : Type} [DecidableEq K] (key : Int → K) (n : Nat) : gRun key (n + 1) = gStep key (gRun key n) n := by
  unfold gRun
  rw [List.range_succ, List.foldl_append, List.foldl_cons, List.foldl_nil]
theorem nest_at {w : World} {base : Nat} {te ti : TypeId} {g cp : Nat} {cs : List Value} {out : List (List Int)} (h : Nest w base te ti 1 0 1 (.slice (some ⟨g, 0, none⟩) out.length cp) cs (out.map cellsI)) (k : Nat) (hk : k < out.length) :
    ∃ u, cs[k]? = some u ∧ w.cell? ⟨g, k, none⟩ = some u ∧ w.frozen? ⟨g, k, none⟩ = false ∧ w.ownsRow base ti 1 u (out.getD k []).length ((out.getD k []).map (Value.int .i64)) ∧ (u.ownBlock = none ∨ u.ownBlock ≠ some g) ∧ g < w.heap.size ∧ base ≤ g ∧ out.length ≤ cp := by
  have hy : (out.map cellsI)[k]? = some (cellsI (out.getD k [])) := by
    rw [List.getElem?_map, List.getElem?_eq_getElem hk, List.getD_eq_getElem?_getD, List.getElem?_eq_getElem hk]; rfl
  obtain ⟨g', cap, u, e1, e2, e0, e3, e4, e5, e6⟩ := h.get (by omega) (by omega) hy
  simp only [Value.slice.injEq, Option.some.injEq, Addr.mk.injEq, List.length_map, true_and, and_true] at e1
  obtain ⟨rfl, rfl⟩ := e1
  rw [Nat.mul_one, Nat.add_zero] at e3 e4 e0
  have hcp : out.length ≤ cp := by
    obtain ⟨_, ⟨hv, _⟩ | ⟨g2, cap2, cur, hv, _, _, hc, _⟩⟩ := h.outer
    · simp at hv
    · simp only [Value.slice.injEq, List.length_map] at hv; obtain ⟨_, _, rfl⟩ := hv; simpa using hc
  exact ⟨u, e0, e3, e4, e5, e6, lt_of_cell e3, e2, hcp⟩
theorem nest_put {w w5 : World} {base : Nat} {te ti : TypeId} {g cp : Nat} {cs : List Value} {out : List (List Int)} (h : Nest w base te ti 1 0 1 (.slice (some ⟨g, 0, none⟩) out.length cp) cs (out.map cellsI)) {k : Nat} (hk : k < out.length) {u : Value} (hu : cs[k]? = some u) {x : Int} {g5 n5 cap5 : Nat} {o : Obj}
    (ho : w5.ownsRow base ti 1 (.slice (some ⟨g5, 0, none⟩) n5 cap5) ((out.getD k []).length + 1) ((out.getD k []).map (Value.int .i64) ++ [.int .i64 x])) (hg : (w.alloc o).grownBy w5 u.ownBlock) (hb : u.ownBlock = some g5 ∨ g5 = (w.alloc o).heap.size) :
    Nest (w5.setCell ⟨g, k, none⟩ (.slice (some ⟨g5, 0, none⟩) n5 cap5)) base te ti 1 0 1 (.slice (some ⟨g, 0, none⟩) out.length cp) (cs.set k (.slice (some ⟨g5, 0, none⟩) n5 cap5)) ((out.set k (out.getD k [] ++ [x])).map cellsI) := by
  have hy : (out.map cellsI)[k]? = some (cellsI (out.getD k [])) := by
    rw [List.getElem?_map, List.getElem?_eq_getElem hk, List.getD_eq_getElem?_getD, List.getElem?_eq_getElem hk]; rfl
  have h2 : Nest (w.alloc o) base te ti 1 0 1 (.slice (some ⟨g, 0, none⟩) out.length cp) cs (out.map cellsI) := h.kept (World.grownBy_alloc w o none) (fun b hb => by simp at hb)
  have := h2.app (by omega) (by omega) (i := k) (g := g) (cap := cp) hy (by rw [List.length_map]) (by rw [Nat.mul_one, Nat.add_zero]; exact hu) ho hg (hb.imp (fun e => e.symm) (fun e => by rw [← e]; rfl))
  rw [Nat.mul_one, Nat.add_zero] at this
  rw [List.map_set]
  have e : cellsI (out.getD k [] ++ [x]) = ((out.getD k []).length + 1, (out.getD k []).map (Value.int .i64) ++ [.int .i64 x]) := by simp [cellsI]
  rw [e]
  exact this
theorem gRun_bd (keys : List (List Val)) (hlen : keys.length ≤ 2000000) (k : Nat) : ∀ x ∈ (gRun (keyAt keys) keys.length).getD k [], -9223372036854775808 ≤ x ∧ x ≤ 9223372036854775807 := fun x hx => by
  obtain ⟨h1, h2, _⟩ := (gRun_ok (keyAt keys) keys.length).mem k x hx
  omega
end
end Go.Proofs.YtfdnnfbbjiglcaaDoor.B
