/- What 'all' of the laws, and of the reference, come to. -/
import Derived.Test.YtkoemlkjaanndaaCostA
namespace Go.Proofs.Ytkoemlkjaanndaa
open Go.RowKit
open K

/-- Nine numbers in a block of their own. -/
def Nine (l : List Int) (w : World) (e : Ending) (w' : World) : Prop :=
  ∃ bl, e = .returned (.slice (some ⟨bl, 0, none⟩) 9 9) ∧ Ext w w' ∧ w.heap.size ≤ bl ∧ bl < w'.heap.size ∧ ∀ i, i < 9 → w'.cell? ⟨bl, i, none⟩ = some (.int .i64 (l.getD i 0))

theorem nine_of {w w' : World} {x0 x1 x2 x3 x4 x5 x6 x7 x8 : Int} {t : TypeId} (h : Ext w w') :
    Nine [x0, x1, x2, x3, x4, x5, x6, x7, x8] w (.returned (.slice (some ⟨w'.heap.size, 0, none⟩) 9 9)) (w'.alloc (.cells #[.int .i64 x0, .int .i64 x1, .int .i64 x2, .int .i64 x3, .int .i64 x4, .int .i64 x5, .int .i64 x6, .int .i64 x7, .int .i64 x8] t)) := by
  refine ⟨_, rfl, h.alloc _, h.le, by simp, fun i hi => ?_⟩
  match i, hi with
  | 0, _ => simp | 1, _ => simp | 2, _ => simp | 3, _ => simp | 4, _ => simp | 5, _ => simp | 6, _ => simp | 7, _ => simp | 8, _ => simp

set_option maxHeartbeats 1000000 in
theorem all_any (a b c d : Int) (w : World) :
    Calls Try.prog 10 #[.agg #[.int .i64 a, .int .i64 b, .int .i64 c, .int .i64 d]] w (Nine (all a b c d) w) := by
  go_enter Try.func10, Try.ntmps10
  go_wp2_with fail
  go_quiet (fail)
  go_wp2_with (first | (go_at_call 8; refine (add_any _ _ _).mono ?_; rintro e w1 ⟨rfl, x1⟩) | (go_at_call 9; refine (mul_any _ _ _).mono ?_; rintro e w1 ⟨rfl, rfl⟩) | (go_at_call 17; refine (scan_any _ _ _).mono ?_; rintro e w1 ⟨rfl, x1⟩) | (go_at_call 18; refine (seek_any _ _ _).mono ?_; rintro e w1 ⟨rfl, x1⟩) | (go_at_call 12; refine (nest_any _ _ _ _).mono ?_; rintro e w1 ⟨rfl, x1⟩) | (go_at_call 13; refine (hash_any _ _ _ _ _).mono ?_; rintro e w1 ⟨rfl, x1⟩) | (go_at_call 14; refine (merge_any _ _ _ _ _).mono ?_; rintro e w1 ⟨rfl, x1⟩) | (go_at_call 15; refine (sort_any _ _ _).mono ?_; rintro e w1 ⟨rfl, x1⟩) | (go_at_call 16; refine (each_any _ _ _).mono ?_; rintro e w1 ⟨rfl, x1⟩))
  go_ret
  exact nine_of (by repeat (first | assumption | exact Ext.refl _ | (refine Ext.trans ?_ (by assumption)) | apply Ext.alloc | apply Ext.drew | apply Ext.drewN))
end Go.Proofs.Ytkoemlkjaanndaa
