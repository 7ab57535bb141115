/- Contracts of the reference of layer 25. -/
import Derived.Test.YtkoemlkjaanndaaCostL
namespace Go.Proofs.Ytkoemlkjaanndaa
open Go.RowKit
open K

theorem rin_any (n : Int) (w : World) : Calls Try.prog 31 #[.int .i64 n] w fun e w' => e = .returned (.int .i64 (within n)) ∧ w = w' := by
  by_cases h0 : n < 0
  · have hf : within n = 0 := by unfold within; rw [if_pos h0]
    have HF := Lib.hid hf; clear hf
    go_enter Try.func31, Try.ntmps31
    go_wp2
    go_ret
    exact ⟨by rw [HF.out]; rfl, rfl⟩
  · by_cases h1 : 1000000000000 < n
    · have hf : within n = 1000000000000 := by unfold within; rw [if_neg h0, if_pos h1]
      have HF := Lib.hid hf; clear hf
      go_enter Try.func31, Try.ntmps31
      go_wp2
      go_ret
      exact ⟨by rw [HF.out]; rfl, rfl⟩
    · have hf : within n = n := by unfold within; rw [if_neg h0, if_neg h1]
      have HF := Lib.hid hf; clear hf
      go_enter Try.func31, Try.ntmps31
      go_wp2
      go_ret
      exact ⟨by rw [HF.out]; rfl, rfl⟩

theorem radd_any (a b : Int) (w : World) : Calls Try.prog 21 #[.int .i64 a, .int .i64 b] w fun e w' => e = .returned (.int .i64 (add a b)) ∧ w = w' := by
  have h1 := within_bd a
  have h2 := within_bd b
  go_enter Try.func21, Try.ntmps21
  go_wp2_with ((go_at_call 31; refine (rin_any _ _).mono ?_; rintro e w1 ⟨rfl, rfl⟩))
  go_ret
  exact ⟨rfl, rfl⟩

theorem rmul_any (a b : Int) (w : World) :
    Calls Try.prog 22 #[.int .i64 a, .int .i64 b] w fun e w' => e = .returned (.int .i64 (mul a b)) ∧ w = w' := by
  have h1 := within_bd a
  have h2 := within_bd b
  have hm : ∀ r, mul a b = r → Hid (mul a b = r) := fun _ h => h
  by_cases h0 : 0 < within a
  · by_cases h3 : 1000000000000 / within a < within b
    · have HR := hm 1000000000000 (by unfold mul; rw [if_pos ⟨h0, h3⟩])
      generalize mul a b = m at HR
      clear hm
      go_enter Try.func22, Try.ntmps22
      go_wp2_with ((go_at_call 31; refine (rin_any _ _).mono ?_; rintro e w1 ⟨rfl, rfl⟩))
      go_ret
      exact ⟨by rw [HR.out]; rfl, rfl⟩
    · have HR := hm (within a * within b) (by unfold mul; rw [if_neg (fun h => h3 h.2)])
      have hp := mul_le h0 h2.1 h3
      generalize mul a b = m at HR
      clear hm
      go_enter Try.func22, Try.ntmps22
      go_wp2_with ((go_at_call 31; refine (rin_any _ _).mono ?_; rintro e w1 ⟨rfl, rfl⟩))
      go_ret
      exact ⟨by rw [HR.out]; rfl, rfl⟩
  · have HR := hm (within a * within b) (by unfold mul; rw [if_neg (fun h => h0 h.1)])
    have hp : within a * within b = 0 := by have : within a = 0 := by omega
                                            rw [this]; simp
    have hp1 : 0 ≤ within a * within b := by omega
    have hp2 : within a * within b ≤ 0 := by omega
    clear hp
    generalize mul a b = m at HR
    clear hm
    go_enter Try.func22, Try.ntmps22
    go_wp2_with ((go_at_call 31; refine (rin_any _ _).mono ?_; rintro e w1 ⟨rfl, rfl⟩))
    go_ret
    exact ⟨by rw [HR.out]; rfl, rfl⟩

theorem rscan_any (a b : Int) (w : World) : Calls Try.prog 23 #[.int .i64 a, .int .i64 b] w fun e w' => e = .returned (.int .i64 (scan a b)) ∧ w = w' := by
  go_enter Try.func23, Try.ntmps23
  go_wp2_with (first | (go_at_call 21; refine (radd_any _ _ _).mono ?_; rintro e w1 ⟨rfl, rfl⟩) | (go_at_call 22; refine (rmul_any _ _ _).mono ?_; rintro e w1 ⟨rfl, rfl⟩))
  go_ret
  exact ⟨rfl, rfl⟩
theorem rseek_any (a b : Int) (w : World) : Calls Try.prog 24 #[.int .i64 a, .int .i64 b] w fun e w' => e = .returned (.int .i64 (seek a b)) ∧ w = w' := by
  go_enter Try.func24, Try.ntmps24
  go_wp2_with (first | (go_at_call 21; refine (radd_any _ _ _).mono ?_; rintro e w1 ⟨rfl, rfl⟩) | (go_at_call 22; refine (rmul_any _ _ _).mono ?_; rintro e w1 ⟨rfl, rfl⟩))
  go_ret
  exact ⟨rfl, rfl⟩
theorem rnest_any (a b c : Int) (w : World) : Calls Try.prog 25 #[.int .i64 a, .int .i64 b, .int .i64 c] w fun e w' => e = .returned (.int .i64 (nest a b c)) ∧ w = w' := by
  go_enter Try.func25, Try.ntmps25
  go_wp2_with (first | (go_at_call 21; refine (radd_any _ _ _).mono ?_; rintro e w1 ⟨rfl, rfl⟩) | (go_at_call 22; refine (rmul_any _ _ _).mono ?_; rintro e w1 ⟨rfl, rfl⟩))
  go_ret
  exact ⟨rfl, rfl⟩
theorem rhash_any (a b c d : Int) (w : World) : Calls Try.prog 26 #[.int .i64 a, .int .i64 b, .int .i64 c, .int .i64 d] w fun e w' => e = .returned (.int .i64 (hash a b c d)) ∧ w = w' := by
  go_enter Try.func26, Try.ntmps26
  go_wp2_with (first | (go_at_call 21; refine (radd_any _ _ _).mono ?_; rintro e w1 ⟨rfl, rfl⟩) | (go_at_call 22; refine (rmul_any _ _ _).mono ?_; rintro e w1 ⟨rfl, rfl⟩))
  go_ret
  exact ⟨rfl, rfl⟩
theorem reach_any (a b : Int) (w : World) : Calls Try.prog 29 #[.int .i64 a, .int .i64 b] w fun e w' => e = .returned (.int .i64 (each a b)) ∧ w = w' := by
  go_enter Try.func29, Try.ntmps29
  go_wp2_with (first | (go_at_call 21; refine (radd_any _ _ _).mono ?_; rintro e w1 ⟨rfl, rfl⟩) | (go_at_call 22; refine (rmul_any _ _ _).mono ?_; rintro e w1 ⟨rfl, rfl⟩))
  go_ret
  exact ⟨rfl, rfl⟩

theorem digits_any (n : Int) (w : World) (h0 : 0 ≤ n) (h1 : n ≤ 1000000000000) :
    Calls Try.prog 32 #[.int .i64 n] w fun e w' => e = .returned (.int .i64 (Lib.bitLen n.toNat : Nat)) ∧ w = w' := by
  go_enter Try.func32, Try.ntmps32
  go_wp2
  go_loop [0, 3] (fun m k => ∃ (x j : Nat), m = .int .i64 x ∧ k = .int .i64 j ∧ x ≤ 1000000000000 ∧ j ≤ 64 ∧ Hid (j + Lib.bitLen x = Lib.bitLen n.toNat)) (fun m _ => (intOf m).toNat)
  case atStart =>
    obtain ⟨m, rfl⟩ := Int.eq_ofNat_of_zero_le h0
    exact ⟨m, 0, rfl, rfl, by omega, by omega, by unfold Hid; simp⟩
  case round =>
    obtain ⟨x, j, rfl, rfl, hx, hj, hs⟩ := hrel
    by_cases hp : 0 < x
    · have hh : j + 1 + Lib.bitLen (x / 2) = Lib.bitLen n.toNat := by
        have := hs.out
        rw [Lib.bitLen_half x (by omega) (by omega)] at this
        omega
      have hle : j + 1 ≤ 64 := by
        have := bitLenAux_le 64 n.toNat
        unfold Lib.bitLen at hh; omega
      have HH := Lib.hid hh; clear hh
      go_wp2
      go_round
      case rel => exact ⟨x / 2, j + 1, by go_num, by go_num, by omega, hle, HH.out⟩
      case measure => simp [intOf]; omega
    · have hz : Lib.bitLen n.toNat = j := by
        have := hs.out
        obtain rfl : x = 0 := by omega
        rw [show Lib.bitLen 0 = 0 from by decide] at this; omega
      have HZ := Lib.hid hz; clear hz
      go_wp2
      go_ret
      exact ⟨by rw [HZ.out]; rfl, rfl⟩

theorem rsort_any (a b : Int) (w : World) : Calls Try.prog 28 #[.int .i64 a, .int .i64 b] w fun e w' => e = .returned (.int .i64 (sort a b)) ∧ w = w' := by
  have h1 := within_bd a
  go_enter Try.func28, Try.ntmps28
  go_wp2_with (first | (go_at_call 21; refine (radd_any _ _ _).mono ?_; rintro e w1 ⟨rfl, rfl⟩) | (go_at_call 22; refine (rmul_any _ _ _).mono ?_; rintro e w1 ⟨rfl, rfl⟩) | (go_at_call 31; refine (rin_any _ _).mono ?_; rintro e w1 ⟨rfl, rfl⟩) | (go_at_call 32; refine (digits_any _ _ (by omega) (by omega)).mono ?_; rintro e w1 ⟨rfl, rfl⟩))
  go_ret
  exact ⟨rfl, rfl⟩
theorem rmerge_any (a b c d : Int) (w : World) : Calls Try.prog 27 #[.int .i64 a, .int .i64 b, .int .i64 c, .int .i64 d] w fun e w' => e = .returned (.int .i64 (merge a b c d)) ∧ w = w' := by
  go_enter Try.func27, Try.ntmps27
  go_wp2_with (first | (go_at_call 21; refine (radd_any _ _ _).mono ?_; rintro e w1 ⟨rfl, rfl⟩) | (go_at_call 28; refine (rsort_any _ _ _).mono ?_; rintro e w1 ⟨rfl, rfl⟩))
  go_ret
  exact ⟨rfl, rfl⟩
set_option maxHeartbeats 1000000 in
theorem rall_any (a b c d : Int) (w : World) :
    Calls Try.prog 11 #[.int .i64 a, .int .i64 b, .int .i64 c, .int .i64 d] w (Nine (all a b c d) w) := by
  go_enter Try.func11, Try.ntmps11
  go_wp2_with (first | (go_at_call 21; refine (radd_any _ _ _).mono ?_; rintro e w1 ⟨rfl, rfl⟩) | (go_at_call 22; refine (rmul_any _ _ _).mono ?_; rintro e w1 ⟨rfl, rfl⟩) | (go_at_call 23; refine (rscan_any _ _ _).mono ?_; rintro e w1 ⟨rfl, rfl⟩) | (go_at_call 24; refine (rseek_any _ _ _).mono ?_; rintro e w1 ⟨rfl, rfl⟩) | (go_at_call 25; refine (rnest_any _ _ _ _).mono ?_; rintro e w1 ⟨rfl, rfl⟩) | (go_at_call 26; refine (rhash_any _ _ _ _ _).mono ?_; rintro e w1 ⟨rfl, rfl⟩) | (go_at_call 27; refine (rmerge_any _ _ _ _ _).mono ?_; rintro e w1 ⟨rfl, rfl⟩) | (go_at_call 28; refine (rsort_any _ _ _).mono ?_; rintro e w1 ⟨rfl, rfl⟩) | (go_at_call 29; refine (reach_any _ _ _).mono ?_; rintro e w1 ⟨rfl, rfl⟩))
  go_ret
  exact nine_of (by repeat (first | assumption | exact Ext.refl _ | (refine Ext.trans ?_ (by assumption)) | apply Ext.alloc | apply Ext.drew | apply Ext.drewN))
end Go.Proofs.Ytkoemlkjaanndaa
