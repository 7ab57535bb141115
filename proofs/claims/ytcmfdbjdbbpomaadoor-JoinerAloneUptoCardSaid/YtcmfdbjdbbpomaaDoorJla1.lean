/- Part 1 of the proof: BLaid BLaidW Base. -/
import Derived.WalkKit
import Derived.Lib.LaidTab
import Derived.Lib.ItoaNum
import Derived.Test.YtcmfdbjdbbpomaaDoorProg
import Derived.LaidLaws
import Derived.Deep.DeepHandedRow
import Derived.Test.YtcmfdbjdbbpomaaDoorRows
import Derived.ProofKit
import Derived.OpenShut
import Derived.Lib.Hide
import Derived.WalkLawsBesides
import Derived.BigQuiet
import Derived.Deep.QuietTactic
namespace Go.Proofs.YtcmfdbjdbbpomaaDoor
open Go Go.RowKit
def LB (b : Nat) : Bool := Nat.beq b 1
theorem laid_named : Tryd.prog.globalNamed "internal/strconv.uint64pow10" = some 1 := by kernel_rfl
def Laid (w : World) : Prop := Lib.TabIs Tryd.prog w "internal/strconv.uint64pow10" .u64 Lib.pow10Tab
theorem Laid.lt {w : World} (h : Laid w) (b : Nat) (hl : LB b = true) : b < w.heap.size := by
  obtain rfl := Nat.eq_of_beq_eq_true hl
  unfold Laid Lib.TabIs World.var? at h
  rw [laid_named] at h
  rcases Nat.lt_or_ge 1 w.heap.size with h1 | h1
  · exact h1
  · simp [Array.getElem?_eq_none h1] at h
theorem Laid.on {w w' : World} (h : Laid w) (_hs : w.heap.size ≤ w'.heap.size) (hb : ∀ b, LB b = true → w'.heap[b]? = w.heap[b]?) : Laid w' := by
  unfold Laid Lib.TabIs World.var? at h ⊢
  rw [laid_named] at h ⊢
  simp only [Option.bind_some] at h ⊢
  rw [hb 1 rfl]
  exact h
end Go.Proofs.YtcmfdbjdbbpomaaDoor
namespace Go.Proofs.YtcmfdbjdbbpomaaDoor
open Go Go.RowKit
noncomputable def laidWorld (os : Os) : World :=
  { World.holding Tryd.prog os ⟨#[], #[], []⟩ with heap := (((((World.holding Tryd.prog os ⟨#[], #[], []⟩).heap).modify 2 (fun o => match o with
      | .cells _ t frozen => .cells #[.int .u8 0, .int .u8 1, .int .u8 28, .int .u8 2, .int .u8 29, .int .u8 14, .int .u8 24, .int .u8 3, .int .u8 30, .int .u8 22, .int .u8 20, .int .u8 15, .int .u8 25, .int .u8 17, .int .u8 4, .int .u8 8, .int .u8 31, .int .u8 27, .int .u8 13, .int .u8 23, .int .u8 21, .int .u8 19, .int .u8 16, .int .u8 7, .int .u8 26, .int .u8 12, .int .u8 18, .int .u8 6, .int .u8 11, .int .u8 5, .int .u8 10, .int .u8 9] t frozen
      | o => o)).modify 3 (fun o => match o with
      | .cells _ t frozen => .cells #[.int .u8 0, .int .u8 1, .int .u8 56, .int .u8 2, .int .u8 57, .int .u8 49, .int .u8 28, .int .u8 3, .int .u8 61, .int .u8 58, .int .u8 42, .int .u8 50, .int .u8 38, .int .u8 29, .int .u8 17, .int .u8 4, .int .u8 62, .int .u8 47, .int .u8 59, .int .u8 36, .int .u8 45, .int .u8 43, .int .u8 51, .int .u8 22, .int .u8 53, .int .u8 39, .int .u8 33, .int .u8 30, .int .u8 24, .int .u8 18, .int .u8 12, .int .u8 5, .int .u8 63, .int .u8 55, .int .u8 48, .int .u8 27, .int .u8 60, .int .u8 41, .int .u8 37, .int .u8 16, .int .u8 46, .int .u8 35, .int .u8 44, .int .u8 21, .int .u8 52, .int .u8 32, .int .u8 23, .int .u8 11, .int .u8 54, .int .u8 26, .int .u8 40, .int .u8 15, .int .u8 34, .int .u8 20, .int .u8 31, .int .u8 10, .int .u8 25, .int .u8 14, .int .u8 19, .int .u8 9, .int .u8 13, .int .u8 8, .int .u8 7, .int .u8 6] t frozen
      | o => o)).modify 1 (fun o => match o with
      | .cells _ t frozen => .cells #[.int .u64 1, .int .u64 10, .int .u64 100, .int .u64 1000, .int .u64 10000, .int .u64 100000, .int .u64 1000000, .int .u64 10000000, .int .u64 100000000, .int .u64 1000000000, .int .u64 10000000000, .int .u64 100000000000, .int .u64 1000000000000, .int .u64 10000000000000, .int .u64 100000000000000, .int .u64 1000000000000000, .int .u64 10000000000000000, .int .u64 100000000000000000, .int .u64 1000000000000000000, .int .u64 10000000000000000000] t frozen
      | o => o)) }
theorem laidMet_tail {P : Program} {W : World} {x : String × DataW Unit} {rest : List (String × DataW Unit)} (h : laidMet P (x :: rest) W) : laidMet P rest W := by
  obtain ⟨ps, ⟨g, t, cs, fuel, p, q, h1, h2, h3, h4, h5, rfl⟩, hn, hr⟩ := h
  exact ⟨q, h5, (List.nodup_append.1 hn).2.1, fun b off hm => hr b off (List.mem_append_right _ hm)⟩
theorem laid_of {W : World} (h : laidMetH Tryd.prog [("math/bits.deBruijn32tab", Rows.laid_math_bits_deBruijn32tab), ("math/bits.deBruijn64tab", Rows.laid_math_bits_deBruijn64tab), ("internal/strconv.uint64pow10", Rows.laid_internal_strconv_uint64pow10)] W) : Laid W := by
  have h : laidMet Tryd.prog [("math/bits.deBruijn32tab", Rows.laid_math_bits_deBruijn32tab), ("math/bits.deBruijn64tab", Rows.laid_math_bits_deBruijn64tab), ("internal/strconv.uint64pow10", Rows.laid_internal_strconv_uint64pow10)] W := h
  have h := laidMet_tail (laidMet_tail (h))
  have e : Rows.laid_internal_strconv_uint64pow10 (H := Unit) = Lib.tabData .u64 Lib.pow10Tab := by rfl
  rw [e] at h
  exact Lib.tabIs_of_head (g := 1) (t := 114) (e := 88) (n := 20)
    (by kernel_rfl) (by kernel_rfl) (by kernel_rfl) (by kernel_rfl) (by kernel_rfl) (by kernel_rfl) h
end Go.Proofs.YtcmfdbjdbbpomaaDoor
namespace Go.Proofs.YtcmfdbjdbbpomaaDoor
open Go.RowKit
def Ext (w w' : World) : Prop := Below w.heap.size w w'
theorem Laid.ext {w w' : World} (h : Laid w) (hb : Ext w w') : Laid w' := h.on hb.size fun b hl => Below.block hb b (h.lt b hl)
theorem Ext.refl (w : World) : Ext w w := Below.refl _ _
theorem Ext.trans {a b c : World} (h : Ext a b) (k : Ext b c) : Ext a c := Below.trans h (Below.mono k h.size)
theorem Ext.alloc {a b : World} (h : Ext a b) (o : Obj) : Ext a (b.alloc o) := Below.alloc h h.size o
theorem Ext.drew {a b : World} (h : Ext a b) : Ext a b.drew := Below.drew h
theorem Ext.drewN {a b : World} (h : Ext a b) (n : Nat) : Ext a (b.drewN n) := by
  induction n with
  | zero => exact h
  | succ n ih => exact Ext.drew ih
theorem Ext.setCell {a b : World} (h : Ext a b) {p : Addr} (hp : a.heap.size ≤ p.block) (u : Value) : Ext a (b.setCell p u) := Below.setCell h hp u
theorem Ext.cell {a b : World} (h : Ext a b) {p : Addr} (hp : p.block < a.heap.size) : b.cell? p = a.cell? p := Below.cell h hp
theorem Ext.frozen {a b : World} (h : Ext a b) {p : Addr} (hp : p.block < a.heap.size) : b.frozen? p = a.frozen? p := Below.frozen h hp
def stuck (w : World) (p : Addr) : Bool := w.frozen? p || (match w.shape? p.block with | some (_, n) => w.frozen? ⟨p.block, n, none⟩ | none => false)
theorem stuck_no {w : World} {p : Addr} (h : stuck w p = false) : w.frozen? p = false := (Bool.or_eq_false_iff.1 h).1
theorem stuck_heap {w w' : World} {p : Addr} (h : w'.heap[p.block]? = w.heap[p.block]?) : stuck w' p = stuck w p := by
  unfold stuck World.frozen? World.shape?
  simp only [h]
theorem stuck_setCell (w : World) (a : Addr) (v : Value) (p : Addr) : stuck (w.setCell a v) p = stuck w p := by
  have hs : (w.setCell a v).shape? p.block = w.shape? p.block := by
    unfold World.shape? World.setCell
    simp only [Array.getElem?_modify]
    by_cases h : a.block = p.block
    · rw [if_pos h]
      cases w.heap[p.block]? with
      | none => rfl
      | some o => cases o <;> (try rfl); simp only [Option.map_some]; split <;> simp_all
    · rw [if_neg h]
  unfold stuck
  simp only [World.frozen?_setCell, hs]
@[simp] theorem stuck_new (w : World) (arr : Array Value) (t : TypeId) (o : Nat) : stuck (w.alloc (.cells arr t)) ⟨w.heap.size, o, none⟩ = false := by
  unfold stuck World.shape? World.frozen? World.alloc
  simp
theorem Ext.stuck {a b : World} (h : Ext a b) {p : Addr} (hp : p.block < a.heap.size) : stuck b p = stuck a p := stuck_heap (Below.block h _ hp)
theorem Ext.le {a b : World} (h : Ext a b) : a.heap.size ≤ b.heap.size := h.size
theorem Ext.block {a b : World} (h : Ext a b) {k : Nat} (hk : k < a.heap.size) : b.heap[k]? = a.heap[k]? := Below.block h k hk
theorem lt_of_cell {w : World} {p : Addr} {v : Value} (h : w.cell? p = some v) : p.block < w.heap.size := by
  unfold World.cell? at h
  rcases Nat.lt_or_ge p.block w.heap.size with hl | hl
  · exact hl
  · rw [Array.getElem?_eq_none hl] at h; simp at h
theorem Ext.keeps {a b : World} (h : Ext a b) {p : Addr} {v : Value} (hc : a.cell? p = some v) : b.cell? p = some v := by
  rw [h.cell (lt_of_cell hc)]; exact hc
end Go.Proofs.YtcmfdbjdbbpomaaDoor
