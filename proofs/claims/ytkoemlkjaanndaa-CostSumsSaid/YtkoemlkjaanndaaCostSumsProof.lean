/- For every three numbers tabellionlaw25.CostSums returns true, and leaves all memory as it was. No condition. -/
import Derived.Test.YtkoemlkjaanndaaRows
import Derived.Test.YtkoemlkjaanndaaCostA
import Derived.Test.YtkoemlkjaanndaaLawBase
namespace Go.Proofs.Ytkoemlkjaanndaa.costSums
open Go.ChangeShapes Go.WideShapes Go.ChangeAt Go.RowKit
open K
set_option linter.unusedVariables false

theorem own : ownKnob Try.prog.godebug = none := by kernel_rfl

theorem walk (a0 : Int) (a1 : Int) (a2 : Int) (w : World) :
    Calls Try.prog 3 #[.int .i64 a0, .int .i64 a1, .int .i64 a2] w fun e w' => e = .returned (.bool true) ∧ Ext w w' := by
  have h1 : (add a0 a1 != add a1 a0) = false := by rw [add_comm]; simp
  have h2 : (mul a0 a1 != mul a1 a0) = false := by rw [mul_comm]; simp
  have h3 : (add (add a0 a1) a2 != add a0 (add a1 a2)) = false := by rw [add_assoc]; simp
  by_cases hlo : a0 < 0
  · go_enter Try.func3, Try.ntmps3
    go_wp2_with (first | (go_at_call 7; refine (awake_any _).mono ?_; rintro e w1 ⟨rfl, x0⟩) | (go_at_call 8; refine (add_any _ _ _).mono ?_; rintro e w1 ⟨rfl, x1⟩) | (go_at_call 9; refine (mul_any _ _ _).mono ?_; rintro e w2 ⟨rfl, rfl⟩))
    go_ret
    exact ⟨rfl, by repeat (first | assumption | refine Ext.trans ?_ (by assumption))⟩
  · by_cases hhi : 1000000000000 ≤ a0
    · go_enter Try.func3, Try.ntmps3
      go_wp2_with (first | (go_at_call 7; refine (awake_any _).mono ?_; rintro e w1 ⟨rfl, x0⟩) | (go_at_call 8; refine (add_any _ _ _).mono ?_; rintro e w1 ⟨rfl, x1⟩) | (go_at_call 9; refine (mul_any _ _ _).mono ?_; rintro e w2 ⟨rfl, rfl⟩))
      go_ret
      exact ⟨rfl, by repeat (first | assumption | refine Ext.trans ?_ (by assumption))⟩
    · have h4 : (mul (a0 + 1) a1 == add (mul a0 a1) a1) = true := by rw [mul_succ a1 (by omega) (by omega)]; simp
      have h5 : 0 ≤ a0 := by omega
      have h6 : a0 < 1000000000000 := by omega
      go_enter Try.func3, Try.ntmps3
      go_wp2_with (first | (go_at_call 7; refine (awake_any _).mono ?_; rintro e w1 ⟨rfl, x0⟩) | (go_at_call 8; refine (add_any _ _ _).mono ?_; rintro e w1 ⟨rfl, x1⟩) | (go_at_call 9; refine (mul_any _ _ _).mono ?_; rintro e w2 ⟨rfl, rfl⟩))
      go_ret
      exact ⟨rfl, by repeat (first | assumption | refine Ext.trans ?_ (by assumption))⟩

set_option maxRecDepth 100000 in
theorem lifted (os : Os) (started : os.Started) (H : Type) (enc : TypeId × Value → H) :
    ReturnsInHanded {} Try.checked os 3 .any (Rows.costSumsSpec.pre6 enc Try.prog Try.f3 Rows.costSumsRow.domain false) (Rows.costSumsSpec.post enc Try.prog Try.f3 false true false false) := by
  refine returnsInHanded_of_change (C := Try.checked) own started (by kernel_rfl) Try.func3
    (ChangeSpec.witness6 (enc := enc) (C := Try.checked) false ⟨#[], #[.int .i64 0, .int .i64 0, .int .i64 0], []⟩ 8 (by kernel_rfl) (by kernel_rfl) (by kernel_rfl) (by kernel_rfl)) ?_
  intro W base args ds gs before hval0 hW hcnd _
  have hval : ∀ (j : Nat) t v, Try.f3.params[j]? = some t → args[j]? = some v → Value.okWide Try.prog W .any base t v := hval0
  have hW' := hW
  obtain ⟨p, q, hA0, hV, rfl, hfz, hnd⟩ := hW
  have hA : DataW.TrodAll enc Try.prog W 0 (fun _ => true) true Try.f3.params.toList args.toList ds p := hA0
  rw [Try.params3] at hA hval
  obtain ⟨v0, vs0, d0, ds0, p0, q0, hargs, rfl, rfl, h0, r0⟩ := trodAll_cons hA
  obtain ⟨v1, vs1, d1, ds1, p1, q1, rfl, rfl, rfl, h1, r1⟩ := trodAll_cons r0
  obtain ⟨v2, vs2, d2, ds2, p2, q2, rfl, rfl, rfl, h2, r2⟩ := trodAll_cons r1
  obtain ⟨rfl, rfl, rfl⟩ := trodAll_nil r2
  obtain rfl : args = #[v0, v1, v2] := by cases args; simp_all
  obtain ⟨rfl, rfl⟩ := trodVars_none hV
  obtain ⟨a0, rfl, rfl, rfl, w0⟩ := open_int Try.underlying3 (hval 0 3 v0 rfl rfl) h0
  obtain ⟨a1, rfl, rfl, rfl, w1⟩ := open_int Try.underlying3 (hval 1 3 v1 rfl rfl) h1
  obtain ⟨a2, rfl, rfl, rfl, w2⟩ := open_int Try.underlying3 (hval 2 3 v2 rfl rfl) h2
  clear hA0 hval0
  simp only [List.append_nil] at hW'
  refine (walk a0 a1 a2 W).mono fun e W' ⟨he, hg⟩ => ?_
  subst he
  exact ⟨_, rfl, law_post (by kernel_rfl) (by kernel_rfl) (tb := 4) (by kernel_rfl) Try.underlying4 rfl (fun l hl => match l, hl with | [_, _, _], _ => ⟨rfl, rfl, rfl⟩) hW' hg⟩

theorem over : Rows.costSumsRow.holds Try.pinned (OpenSpec.ofChange Rows.costSumsSpec) :=
  OpenClaim.holds_of_wide 3 Try.f3 rfl rfl rfl rfl rfl rfl rfl ⟨rfl, rfl, rfl, rfl, rfl⟩ rfl rfl rfl rfl rfl (by kernel_rfl) Try.func3 (by kernel_rfl)
    (of_decide_eq_true (by kernel_rfl)) (by unfold Func.isWrapper; first | (rw [if_pos (by decide +kernel)]; kernel_rfl) | (rw [if_neg (by decide +kernel)]; exact ⟨rfl, rfl⟩))
    (fun os started H enc _ => lifted os started H enc)

/-- The statement. -/
theorem proved : Rows.CostSumsSaid :=
  over
#print axioms proved
end Go.Proofs.Ytkoemlkjaanndaa.costSums
