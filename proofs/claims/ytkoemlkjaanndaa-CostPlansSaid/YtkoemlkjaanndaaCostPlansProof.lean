/- For every four numbers and one more tabellionlaw25.CostPlans returns true, and leaves all memory as it was. No condition. -/
import Derived.Test.YtkoemlkjaanndaaRows
import Derived.Test.YtkoemlkjaanndaaCostA
import Derived.Test.YtkoemlkjaanndaaArrArg
namespace Go.Proofs.Ytkoemlkjaanndaa.costPlans
open Go.ChangeShapes Go.WideShapes Go.ChangeAt Go.RowKit
open K

theorem own : ownKnob Try.prog.godebug = none := by kernel_rfl

set_option maxHeartbeats 1000000 in
theorem walk (a b c d n : Int) (w : World) :
    Calls Try.prog 6 #[.agg #[.int .i64 a, .int .i64 b, .int .i64 c, .int .i64 d], .int .i64 n] w fun e w' => e = .returned (.bool true) ∧ Ext w w' := by
  have h1 : max 0 (min b 1000000000000) ≤ nest a b c := by rw [within_eq]; exact nest_ge _ _ _
  have h2 : max (max 0 (min b 1000000000000)) (max 0 (min d 1000000000000)) ≤ K.hash a b c d := by rw [within_eq, within_eq]; have := hash_ge a b c d; omega
  have h3 : max (max 0 (min b 1000000000000)) (max 0 (min d 1000000000000)) ≤ merge a b c d := by rw [within_eq, within_eq]; have := merge_ge a b c d; omega
  have h4 := each_le_sort n b
  by_cases hlo : n < 0
  · go_enter Try.func6, Try.ntmps6
    go_wp2_with fail
    go_quiet (fail)
    go_wp2_with (first | (go_at_call 7; refine (awake_any _).mono ?_; rintro e w1 ⟨rfl, x1⟩) | (go_at_call 12; refine (nest_any _ _ _ _).mono ?_; rintro e w1 ⟨rfl, x1⟩) | (go_at_call 13; refine (hash_any _ _ _ _ _).mono ?_; rintro e w1 ⟨rfl, x1⟩) | (go_at_call 14; refine (merge_any _ _ _ _ _).mono ?_; rintro e w1 ⟨rfl, x1⟩) | (go_at_call 15; refine (sort_any _ _ _).mono ?_; rintro e w1 ⟨rfl, x1⟩) | (go_at_call 16; refine (each_any _ _ _).mono ?_; rintro e w1 ⟨rfl, x1⟩) | (go_at_call 8; refine (add_any _ _ _).mono ?_; rintro e w1 ⟨rfl, x1⟩))
    go_ret
    exact ⟨rfl, (by repeat (first | assumption | exact Ext.refl _ | (refine Ext.trans ?_ (by assumption)) | apply Ext.alloc | apply Ext.drew | apply Ext.drewN))⟩
  · by_cases hhi : 5000000000 < n
    · go_enter Try.func6, Try.ntmps6
      go_wp2_with fail
      go_quiet (fail)
      go_wp2_with (first | (go_at_call 7; refine (awake_any _).mono ?_; rintro e w1 ⟨rfl, x1⟩) | (go_at_call 12; refine (nest_any _ _ _ _).mono ?_; rintro e w1 ⟨rfl, x1⟩) | (go_at_call 13; refine (hash_any _ _ _ _ _).mono ?_; rintro e w1 ⟨rfl, x1⟩) | (go_at_call 14; refine (merge_any _ _ _ _ _).mono ?_; rintro e w1 ⟨rfl, x1⟩) | (go_at_call 15; refine (sort_any _ _ _).mono ?_; rintro e w1 ⟨rfl, x1⟩) | (go_at_call 16; refine (each_any _ _ _).mono ?_; rintro e w1 ⟨rfl, x1⟩) | (go_at_call 8; refine (add_any _ _ _).mono ?_; rintro e w1 ⟨rfl, x1⟩))
      go_ret
      exact ⟨rfl, (by repeat (first | assumption | exact Ext.refl _ | (refine Ext.trans ?_ (by assumption)) | apply Ext.alloc | apply Ext.drew | apply Ext.drewN))⟩
    · have h5 := sort_twice n (by omega) (by omega)
      have h6 : 0 ≤ n := by omega
      have h7 : n ≤ 5000000000 := by omega
      go_enter Try.func6, Try.ntmps6
      go_wp2_with fail
      go_quiet (fail)
      go_wp2_with (first | (go_at_call 7; refine (awake_any _).mono ?_; rintro e w1 ⟨rfl, x1⟩) | (go_at_call 12; refine (nest_any _ _ _ _).mono ?_; rintro e w1 ⟨rfl, x1⟩) | (go_at_call 13; refine (hash_any _ _ _ _ _).mono ?_; rintro e w1 ⟨rfl, x1⟩) | (go_at_call 14; refine (merge_any _ _ _ _ _).mono ?_; rintro e w1 ⟨rfl, x1⟩) | (go_at_call 15; refine (sort_any _ _ _).mono ?_; rintro e w1 ⟨rfl, x1⟩) | (go_at_call 16; refine (each_any _ _ _).mono ?_; rintro e w1 ⟨rfl, x1⟩) | (go_at_call 8; refine (add_any _ _ _).mono ?_; rintro e w1 ⟨rfl, x1⟩))
      go_ret
      exact ⟨rfl, (by repeat (first | assumption | exact Ext.refl _ | (refine Ext.trans ?_ (by assumption)) | apply Ext.alloc | apply Ext.drew | apply Ext.drewN))⟩

set_option maxRecDepth 100000 in
theorem lifted (os : Os) (started : os.Started) (H : Type) (enc : TypeId × Value → H) :
    ReturnsInHanded {} Try.checked os 6 .any (Rows.costPlansSpec.pre6 enc Try.prog Try.f6 Rows.costPlansRow.domain false) (Rows.costPlansSpec.post enc Try.prog Try.f6 false true false false) := by
  refine returnsInHanded_of_change (C := Try.checked) own started (by kernel_rfl) Try.func6
    (ChangeSpec.witness6 (enc := enc) (C := Try.checked) false ⟨#[], #[.agg #[.int .i64 0, .int .i64 0, .int .i64 0, .int .i64 0], .int .i64 0], []⟩ 8 (by kernel_rfl) (by kernel_rfl) (by kernel_rfl) (by kernel_rfl)) ?_
  intro W base args ds gs before hval0 hW hcnd _
  have hval : ∀ (j : Nat) t v, Try.f6.params[j]? = some t → args[j]? = some v → Value.okWide Try.prog W .any base t v := hval0
  have hW' := hW
  obtain ⟨p, q, hA0, hV, rfl, hfz, hnd⟩ := hW
  have hA : DataW.TrodAll enc Try.prog W 0 (fun _ => true) true Try.f6.params.toList args.toList ds p := hA0
  rw [Try.params6] at hA hval
  obtain ⟨v0, v1, d0, d1, p0, p1, rfl, rfl, rfl, h0, h1⟩ := trodAll_two hA
  obtain ⟨rfl, rfl⟩ := trodVars_none hV
  obtain ⟨a, b, c, d, rfl, _⟩ := open_arr4 Try.underlying25 Try.underlying3 (by kernel_rfl) (by kernel_rfl) (hval 0 25 v0 rfl rfl) h0
  obtain ⟨n, rfl, rfl, rfl, w1⟩ := open_int Try.underlying3 (hval 1 3 v1 rfl rfl) h1
  refine (walk a b c d n W).mono fun e W' ⟨he, hg⟩ => ?_
  subst he
  exact ⟨_, rfl, law_post (by kernel_rfl) (by kernel_rfl) (tb := 4) (by kernel_rfl) Try.underlying4 rfl (fun l hl => match l, hl with | [_, _], _ => ⟨rfl, rfl, rfl⟩) hW' hg⟩

theorem over : Rows.costPlansRow.holds Try.pinned (OpenSpec.ofChange Rows.costPlansSpec) :=
  OpenClaim.holds_of_wide 6 Try.f6 rfl rfl rfl rfl rfl rfl rfl ⟨rfl, rfl, rfl, rfl, rfl⟩ rfl rfl rfl rfl rfl (by kernel_rfl) Try.func6 (by kernel_rfl)
    (of_decide_eq_true (by kernel_rfl)) (by unfold Func.isWrapper; first | (rw [if_pos (by decide +kernel)]; kernel_rfl) | (rw [if_neg (by decide +kernel)]; exact ⟨rfl, rfl⟩))
    (fun os started H enc _ => lifted os started H enc)

/-- The statement. -/
theorem proved : Rows.CostPlansSaid := over
#print axioms proved
end Go.Proofs.Ytkoemlkjaanndaa.costPlans
