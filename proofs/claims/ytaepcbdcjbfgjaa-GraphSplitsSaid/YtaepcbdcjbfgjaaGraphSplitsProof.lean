/- tabellionlaw27.GraphSplits returns true, for every input, and leaves all memory as it was. No condition. -/
import Derived.SizedLaws
import Derived.Test.YtaepcbdcjbfgjaaRows
import Derived.Test.YtaepcbdcjbfgjaaBLaw
import Derived.Test.YtaepcbdcjbfgjaaSlaw27
namespace Go.Proofs.Ytaepcbdcjbfgjaa.graphSplits
open Go.ChangeShapes Go.WideShapes Go.ChangeAt Go.RowKit
open Go Go.Proofs.Ytaepcbdcjbfgjaa.B
set_option linter.unusedVariables false

theorem own : ownKnob Try.prog.godebug = none := by kernel_rfl

set_option maxRecDepth 100000 in
theorem lifted (os : Os) (started : os.Started) (H : Type) (enc : TypeId × Value → H) :
    ReturnsInHanded {} Try.checked os 6 .any (Rows.graphSplitsSpec.pre6 enc Try.prog Try.f6 Rows.graphSplitsRow.domain false) (Rows.graphSplitsSpec.post enc Try.prog Try.f6 false true false false) := by
  refine returnsInHanded_of_change_sized (C := Try.checked) own started (by kernel_rfl) Try.func6
    (ChangeSpec.witness6 (enc := enc) (C := Try.checked) false ⟨#[], #[.int .i64 0], []⟩ 12 (by kernel_rfl) (by kernel_rfl) (by kernel_rfl) (by kernel_rfl)) ?_
  intro W base args ds gs before hval0 hW hcnd hz _
  have hval : ∀ (j : Nat) t v, Try.f6.params[j]? = some t → args[j]? = some v → Value.okWide Try.prog W .any base t v := hval0
  have hW2 := hW
  obtain ⟨p, q, hA0, hV, rfl, hfz, hnd⟩ := hW
  have hA : DataW.TrodAll enc Try.prog W 0 (fun _ => true) true Try.f6.params.toList args.toList ds p := hA0
  rw [Try.params6] at hA hval
  obtain ⟨v0, vs0, d0, ds0, p0, q0, hargs, rfl, rfl, h0, r0⟩ := trodAll_cons hA
  obtain ⟨rfl, rfl, rfl⟩ := trodAll_nil r0
  obtain rfl : args = #[v0] := by cases args; simp_all
  obtain ⟨rfl, rfl⟩ := trodVars_none hV
  obtain ⟨a0, w0⟩ := arg_int Try.underlying3 (hval 0 3 v0 rfl rfl) h0
  have hv0 : Rows.graphSplitsSpec.plain.varTypes Try.checked.prog = [] := rfl
  rw [hv0] at hz
  have hz2 : ∀ q ∈ DataW.weightsEach Try.prog Try.f6.params.toList [d0], q ≤ reachBytes := by
    intro q hq
    have := List.all_eq_true.1 hz q (by rw [List.append_nil, List.append_nil]; exact hq)
    simpa using this
  rw [Try.params6] at hz2
  clear hA0 hval0
  simp only [List.append_nil] at hW2
  have hc := law_calls ok_l27_GraphSplits (args := [.d (.v (.s (.int .i64 a0)))]) (by
    unfold F_l27_GraphSplits
    simp only [dI_mk]
    rfl) (by simp) (w := W) (vs := [v0]) ⟨w0, trivial⟩
  refine hc.mono fun e W3 ⟨he, hg⟩ => ?_
  subst he
  exact ⟨_, rfl, law_post (by kernel_rfl) (by kernel_rfl) (tb := 4) (by kernel_rfl) Try.underlying4 rfl (fun l hl => match l, hl with | [_], _ => ⟨rfl, rfl, rfl⟩) hW2 hg⟩

theorem over : Rows.graphSplitsRow.holds Try.pinned (OpenSpec.ofChange Rows.graphSplitsSpec) :=
  OpenClaim.holds_of_wide 6 Try.f6 rfl rfl rfl rfl rfl rfl rfl ⟨rfl, rfl, rfl, rfl, rfl⟩ rfl rfl rfl rfl rfl (by kernel_rfl) Try.func6 (by kernel_rfl)
    (of_decide_eq_true (by kernel_rfl)) (by unfold Func.isWrapper; first | (rw [if_pos (by decide +kernel)]; kernel_rfl) | (rw [if_neg (by decide +kernel)]; exact ⟨rfl, rfl⟩))
    (fun os started H enc _ => lifted os started H enc)

/-- The statement. -/
theorem proved : Rows.GraphSplitsSaid :=
  over
#print axioms proved
end Go.Proofs.Ytaepcbdcjbfgjaa.graphSplits
