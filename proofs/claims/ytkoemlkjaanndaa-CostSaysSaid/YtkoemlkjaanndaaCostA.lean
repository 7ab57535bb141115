/- Contracts of package cost. -/
import Derived.Test.YtkoemlkjaanndaaProg
import Derived.Test.YtkoemlkjaanndaaBase
import Derived.Test.YtkoemlkjaanndaaCostMath
import Derived.Test.YtkoemlkjaanndaaShelf
namespace Go.Proofs.Ytkoemlkjaanndaa
open Go.RowKit
open K

theorem within_any (n : Int) (w : World) :
    Calls Try.prog 20 #[.int .i64 n] w fun e w' => e = .returned (.int .i64 (within n)) ∧ w = w' := by
  go_enter Try.func20, Try.ntmps20
  go_wp2
  go_ret
  exact ⟨ret_int (a := min (max n 0) 1000000000000) (by unfold within; split <;> (try split) <;> omega), rfl⟩

theorem sum_any (xs : List Int) (b cap : Nat) (w : World) (hl : xs.length ≤ 1000)
    (hc : ∀ i, i < xs.length → w.cell? ⟨b, i, none⟩ = some (.int .i64 (xs.getD i 0))) :
    Calls Try.prog 19 #[.slice (some ⟨b, 0, none⟩) xs.length cap] w fun e w' => e = .returned (.int .i64 (sumL xs)) ∧ w = w' := by
  have HC := Lib.hid hc; clear hc
  go_enter Try.func19, Try.ntmps19
  go_wp2
  go_loop [3, 8] (fun n i => ∃ k : Nat, k ≤ xs.length ∧ i = .int .i64 k ∧ n = .int .i64 (sumL (xs.take k))) (fun _ i => xs.length - (intOf i).toNat)
  case atStart => exact ⟨0, Nat.zero_le _, rfl, rfl⟩
  case round =>
    obtain ⟨k, hk, rfl, rfl⟩ := hrel
    have hb := sumL_bd (xs.take k)
    by_cases hlt : k < xs.length
    · have hcell := HC.out k hlt
      have hs := sumL_snoc xs k hlt
      generalize xs.getD k 0 = x at hcell hs
      have HS := Lib.hid hs; clear hs
      have hb2 := within_bd x
      go_wp2_with (go_at_call 20; refine (within_any _ _).mono ?_; rintro e w' ⟨rfl, rfl⟩)
      go_round
      case rel => exact ⟨k + 1, by omega, by go_num, by rw [HS.out]⟩
      case measure => simp [intOf]; omega
    · go_wp2
      go_ret
      have : k = xs.length := by omega
      subst this
      exact ⟨by simp, rfl⟩

theorem sum2_any (a b : Int) (bl cap : Nat) (w : World) (h0 : w.cell? ⟨bl, 0, none⟩ = some (.int .i64 a)) (h1 : w.cell? ⟨bl, 1, none⟩ = some (.int .i64 b)) :
    Calls Try.prog 19 #[.slice (some ⟨bl, 0, none⟩) 2 cap] w fun e w' => e = .returned (.int .i64 (add a b)) ∧ w = w' := by
  rw [← sumL2]
  exact sum_any [a, b] bl cap w (by simp) (fun i hi => match i, hi with | 0, _ => h0 | 1, _ => h1)

theorem sum4_any (a b c d : Int) (bl cap : Nat) (w : World) (h0 : w.cell? ⟨bl, 0, none⟩ = some (.int .i64 a)) (h1 : w.cell? ⟨bl, 1, none⟩ = some (.int .i64 b)) (h2 : w.cell? ⟨bl, 2, none⟩ = some (.int .i64 c)) (h3 : w.cell? ⟨bl, 3, none⟩ = some (.int .i64 d)) :
    Calls Try.prog 19 #[.slice (some ⟨bl, 0, none⟩) 4 cap] w fun e w' => e = .returned (.int .i64 (add (add a b) (add c d))) ∧ w = w' := by
  rw [← sumL_cons4]
  exact sum_any [a, b, c, d] bl cap w (by simp) (fun i hi => match i, hi with | 0, _ => h0 | 1, _ => h1 | 2, _ => h2 | 3, _ => h3)

theorem mul_any (a b : Int) (w : World) :
    Calls Try.prog 9 #[.int .i64 a, .int .i64 b] w fun e w' => e = .returned (.int .i64 (mul a b)) ∧ w = w' := by
  have h1 := within_bd a
  have h2 := within_bd b
  have hm : ∀ r, mul a b = r → Hid (mul a b = r) := fun _ h => h
  by_cases h0 : 0 < within a
  · by_cases h3 : 1000000000000 / within a < within b
    · have HR := hm 1000000000000 (by unfold mul; rw [if_pos ⟨h0, h3⟩])
      generalize mul a b = m at HR
      clear hm
      go_enter Try.func9, Try.ntmps9
      go_wp2_with (go_at_call 20; refine (within_any _ _).mono ?_; rintro e w' ⟨rfl, rfl⟩)
      go_ret
      exact ⟨by rw [HR.out]; rfl, rfl⟩
    · have HR := hm (within a * within b) (by unfold mul; rw [if_neg (fun h => h3 h.2)])
      have hp := mul_le h0 h2.1 h3
      generalize mul a b = m at HR
      clear hm
      go_enter Try.func9, Try.ntmps9
      go_wp2_with (go_at_call 20; refine (within_any _ _).mono ?_; rintro e w' ⟨rfl, rfl⟩)
      go_ret
      exact ⟨by rw [HR.out]; rfl, rfl⟩
  · have HR := hm (within a * within b) (by unfold mul; rw [if_neg (fun h => h0 h.1)])
    have hp : within a * within b = 0 := by have : within a = 0 := by omega
                                            rw [this]; simp
    have hp1 : 0 ≤ within a * within b := by omega
    have hp2 : within a * within b ≤ 0 := by omega
    clear hp
    generalize mul a b = m at HR
    clear hm
    go_enter Try.func9, Try.ntmps9
    go_wp2_with (go_at_call 20; refine (within_any _ _).mono ?_; rintro e w' ⟨rfl, rfl⟩)
    go_ret
    exact ⟨by rw [HR.out]; rfl, rfl⟩

theorem add_any (a b : Int) (w : World) :
    Calls Try.prog 8 #[.int .i64 a, .int .i64 b] w fun e w' => e = .returned (.int .i64 (add a b)) ∧ Ext w w' := by
  go_enter Try.func8, Try.ntmps8
  go_wp2_with (go_at_call 19; refine (sum2_any a b _ _ _ (by go_simp) (by go_simp)).mono ?_; rintro e w' ⟨rfl, rfl⟩)
  go_ret
  exact ⟨rfl, (Ext.refl _).alloc _⟩

theorem scan_any (a b : Int) (w : World) :
    Calls Try.prog 17 #[.int .i64 a, .int .i64 b] w fun e w' => e = .returned (.int .i64 (scan a b)) ∧ Ext w w' := by
  go_enter Try.func17, Try.ntmps17
  go_wp2_with (first | (go_at_call 19; refine (sum2_any _ _ _ _ _ (by go_simp; rfl) (by go_simp; rfl)).mono ?_; rintro e w' ⟨rfl, rfl⟩) | (go_at_call 9; refine (mul_any _ _ _).mono ?_; rintro e w' ⟨rfl, rfl⟩))
  go_ret
  exact ⟨rfl, (Ext.refl _).alloc _⟩

theorem seek_any (a b : Int) (w : World) :
    Calls Try.prog 18 #[.int .i64 a, .int .i64 b] w fun e w' => e = .returned (.int .i64 (seek a b)) ∧ Ext w w' := by
  go_enter Try.func18, Try.ntmps18
  go_wp2_with (first | (go_at_call 19; refine (sum2_any _ _ _ _ _ (by go_simp; rfl) (by go_simp; rfl)).mono ?_; rintro e w' ⟨rfl, rfl⟩) | (go_at_call 9; refine (mul_any _ _ _).mono ?_; rintro e w' ⟨rfl, rfl⟩))
  go_ret
  exact ⟨rfl, (Ext.refl _).alloc _⟩

theorem nest_any (a b c : Int) (w : World) :
    Calls Try.prog 12 #[.int .i64 a, .int .i64 b, .int .i64 c] w fun e w' => e = .returned (.int .i64 (nest a b c)) ∧ Ext w w' := by
  go_enter Try.func12, Try.ntmps12
  go_wp2_with (first | (go_at_call 19; refine (sum2_any _ _ _ _ _ (by go_simp; rfl) (by go_simp; rfl)).mono ?_; rintro e w' ⟨rfl, rfl⟩) | (go_at_call 9; refine (mul_any _ _ _).mono ?_; rintro e w' ⟨rfl, rfl⟩))
  go_ret
  exact ⟨rfl, (Ext.refl _).alloc _⟩

theorem hash_any (a b c d : Int) (w : World) :
    Calls Try.prog 13 #[.int .i64 a, .int .i64 b, .int .i64 c, .int .i64 d] w fun e w' => e = .returned (.int .i64 (hash a b c d)) ∧ Ext w w' := by
  go_enter Try.func13, Try.ntmps13
  go_wp2_with (first | (go_at_call 19; refine (sum4_any _ _ _ _ _ _ _ (by go_simp; rfl) (by go_simp; rfl) (by go_simp; rfl) (by go_simp; rfl)).mono ?_; rintro e w' ⟨rfl, rfl⟩) | (go_at_call 9; refine (mul_any _ _ _).mono ?_; rintro e w' ⟨rfl, rfl⟩))
  go_ret
  exact ⟨rfl, (Ext.refl _).alloc _⟩

theorem each_any (a b : Int) (w : World) :
    Calls Try.prog 16 #[.int .i64 a, .int .i64 b] w fun e w' => e = .returned (.int .i64 (each a b)) ∧ Ext w w' := by
  go_enter Try.func16, Try.ntmps16
  go_wp2_with (first | (go_at_call 19; refine (sum2_any _ _ _ _ _ (by go_simp; rfl) (by go_simp; rfl)).mono ?_; rintro e w' ⟨rfl, rfl⟩))
  go_ret
  exact ⟨rfl, (Ext.refl _).alloc _⟩

theorem sort_any (a b : Int) (w : World) :
    Calls Try.prog 15 #[.int .i64 a, .int .i64 b] w fun e w' => e = .returned (.int .i64 (sort a b)) ∧ Ext w w' := by
  have h1 := within_bd a
  go_enter Try.func15, Try.ntmps15
  go_wp2_with (first | (go_at_call 19; refine (sum2_any _ _ _ _ _ (by go_simp; rfl) (by go_simp; rfl)).mono ?_; rintro e w' ⟨rfl, rfl⟩) | (go_at_call 9; refine (mul_any _ _ _).mono ?_; rintro e w' ⟨rfl, rfl⟩) | (go_at_call 20; refine (within_any _ _).mono ?_; rintro e w' ⟨rfl, rfl⟩) | (go_at_call 30; refine (Try.bits_Len _ _ (by omega) (by omega)).mono ?_; rintro e w' ⟨rfl, rfl⟩))
  go_ret
  exact ⟨rfl, (Ext.refl _).alloc _⟩

theorem merge_any (a b c d : Int) (w : World) :
    Calls Try.prog 14 #[.int .i64 a, .int .i64 b, .int .i64 c, .int .i64 d] w fun e w' => e = .returned (.int .i64 (merge a b c d)) ∧ Ext w w' := by
  go_enter Try.func14, Try.ntmps14
  go_wp2_with (first | (go_at_call 19; refine (sum4_any _ _ _ _ _ _ _ (by go_simp; rfl) (by go_simp; rfl) (by go_simp; rfl) (by go_simp; rfl)).mono ?_; rintro e w' ⟨rfl, rfl⟩) | (go_at_call 15; refine (sort_any _ _ _).mono ?_; rintro e w' ⟨rfl, hb⟩))
  go_ret
  exact ⟨rfl, (Ext.trans (by assumption) (by assumption)).alloc _⟩

theorem awake_any (w : World) : Calls Try.prog 7 #[] w fun e w' => e = .returned (.bool true) ∧ Ext w w' := by
  have c1 := fun w => scan_any 3 20 w
  have c2 := fun w => seek_any 2 4 w
  have c3 := fun w => nest_any 10 50 7 w
  have c4 := fun w => hash_any 10 50 4 30 w
  have c5 := fun w => sort_any 5 50 w
  have c6 := fun w => merge_any 5 50 0 1 w
  rw [show scan 3 20 = 50 from by decide] at c1
  rw [show seek 2 4 = 64 from by decide] at c2
  rw [show nest 10 50 7 = 120 from by decide] at c3
  rw [show hash 10 50 4 30 = 98 from by decide] at c4
  rw [show sort 5 50 = 65 from by decide] at c5
  rw [show merge 5 50 0 1 = 71 from by decide] at c6
  have C1 := Lib.hid c1
  have C2 := Lib.hid c2
  have C3 := Lib.hid c3
  have C4 := Lib.hid c4
  have C5 := Lib.hid c5
  have C6 := Lib.hid c6
  clear c1 c2 c3 c4 c5 c6
  go_enter Try.func7, Try.ntmps7
  go_wp2_with (first | (go_at_call 17; refine (C1.out _).mono ?_; rintro e w1 ⟨rfl, h1⟩) | (go_at_call 18; refine (C2.out _).mono ?_; rintro e w2 ⟨rfl, h2⟩) | (go_at_call 12; refine (C3.out _).mono ?_; rintro e w3 ⟨rfl, h3⟩) | (go_at_call 13; refine (C4.out _).mono ?_; rintro e w4 ⟨rfl, h4⟩) | (go_at_call 15; refine (C5.out _).mono ?_; rintro e w5 ⟨rfl, h5⟩) | (go_at_call 14; refine (C6.out _).mono ?_; rintro e w6 ⟨rfl, h6⟩))
  go_ret
  exact ⟨rfl, ((((h1.trans h2).trans h3).trans h4).trans h5).trans h6⟩
end Go.Proofs.Ytkoemlkjaanndaa
