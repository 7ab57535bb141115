/- tabellionlaw19.AggBounds returns true, for every input, and leaves all memory as it was. No condition. -/
import Derived.SizedLaws
import Derived.Test.YtpaelnkffpmfaaaRows
import Derived.Test.YtpaelnkffpmfaaaBLaw
import Derived.Test.YtpaelnkffpmfaaaSlaw19
namespace Go.Proofs.Ytpaelnkffpmfaaa.aggBounds
open Go.ChangeShapes Go.WideShapes Go.ChangeAt Go.RowKit
open Go Go.Proofs.Ytpaelnkffpmfaaa.B
set_option linter.unusedVariables false

theorem own : ownKnob Try.prog.godebug = none := by kernel_rfl

set_option maxRecDepth 100000 in
theorem lifted (os : Os) (started : os.Started) (H : Type) (enc : TypeId × Value → H) :
    ReturnsInHanded {} Try.checked os 6 .any (Rows.aggBoundsSpec.pre6 enc Try.prog Try.f6 Rows.aggBoundsRow.domain false) (Rows.aggBoundsSpec.post enc Try.prog Try.f6 false true false false) := by
  refine returnsInHanded_of_change_sized (C := Try.checked) own started (by kernel_rfl) Try.func6
    (ChangeSpec.witness6 (enc := enc) (C := Try.checked) false ⟨#[], #[.slice none 0 0, .int .u8 0], []⟩ 12 (by kernel_rfl) (by kernel_rfl) (by kernel_rfl) (by kernel_rfl)) ?_
  intro W base args ds gs before hval0 hW hcnd hz _
  have hval : ∀ (j : Nat) t v, Try.f6.params[j]? = some t → args[j]? = some v → Value.okWide Try.prog W .any base t v := hval0
  have hW2 := hW
  obtain ⟨p, q, hA0, hV, rfl, hfz, hnd⟩ := hW
  have hA : DataW.TrodAll enc Try.prog W 0 (fun _ => true) true Try.f6.params.toList args.toList ds p := hA0
  rw [Try.params6] at hA hval
  obtain ⟨v0, vs0, d0, ds0, p0, q0, hargs, rfl, rfl, h0, r0⟩ := trodAll_cons hA
  obtain ⟨v1, vs1, d1, ds1, p1, q1, rfl, rfl, rfl, h1, r1⟩ := trodAll_cons r0
  obtain ⟨rfl, rfl, rfl⟩ := trodAll_nil r1
  obtain rfl : args = #[v0, v1] := by cases args; simp_all
  obtain ⟨rfl, rfl⟩ := trodVars_none hV
  obtain ⟨a0, w0, b0⟩ := arg_sl (tiL_sl (t := 25) (τ := .val) (by kernel_rfl)) (hval 0 25 v0 rfl rfl) h0
  obtain ⟨a1, w1⟩ := arg_num (k := .u8) (by kernel_rfl) (hval 1 5 v1 rfl rfl) h1
  have hv0 : Rows.aggBoundsSpec.plain.varTypes Try.checked.prog = [] := rfl
  rw [hv0] at hz
  have hz2 : ∀ q ∈ DataW.weightsEach Try.prog Try.f6.params.toList [d0, d1], q ≤ reachBytes := by
    intro q hq
    have := List.all_eq_true.1 hz q (by rw [List.append_nil, List.append_nil]; exact hq)
    simpa using this
  rw [Try.params6] at hz2
  replace b0 := b0 (fun q hq => hz2 q (by simp only [DataW.weightsEach, List.mem_append]; simp [hq]))
  clear hA0 hval0
  simp only [List.append_nil] at hW2
  have hc := law_calls ok_l19_AggBounds (args := [.d (.v (.dat (U := Un) Ty.val a0)), .d (.v (.s (.int .u8 a1)))]) (by
    unfold F_l19_AggBounds
    simp only [dI_mk, dL_mk]
    rfl) (by simp) (w := W) (vs := [v0, v1]) ⟨w0, w1, trivial⟩
  refine hc.mono fun e W3 ⟨he, hg⟩ => ?_
  subst he
  exact ⟨_, rfl, law_post (by kernel_rfl) (by kernel_rfl) (tb := 4) (by kernel_rfl) Try.underlying4 rfl (fun l hl => match l, hl with | [_, _], _ => ⟨rfl, rfl, rfl⟩) hW2 hg⟩

theorem over : Rows.aggBoundsRow.holds Try.pinned (OpenSpec.ofChange Rows.aggBoundsSpec) :=
  OpenClaim.holds_of_wide 6 Try.f6 rfl rfl rfl rfl rfl rfl rfl ⟨rfl, rfl, rfl, rfl, rfl⟩ rfl rfl rfl rfl rfl (by kernel_rfl) Try.func6 (by kernel_rfl)
    (of_decide_eq_true (by kernel_rfl)) (by unfold Func.isWrapper; first | (rw [if_pos (by decide +kernel)]; kernel_rfl) | (rw [if_neg (by decide +kernel)]; exact ⟨rfl, rfl⟩))
    (fun os started H enc _ => lifted os started H enc)

/-- The statement. -/
theorem proved : Rows.AggBoundsSaid :=
  over
#print axioms proved
end Go.Proofs.Ytpaelnkffpmfaaa.aggBounds
