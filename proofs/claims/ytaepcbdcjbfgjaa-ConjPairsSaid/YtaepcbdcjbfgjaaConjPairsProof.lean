/- tabellionlaw21.ConjPairs returns true, for every input, and leaves all memory as it was. No condition. -/
import Derived.SizedLaws
import Derived.Test.YtaepcbdcjbfgjaaRows
import Derived.Test.YtaepcbdcjbfgjaaBLaw
import Derived.Test.YtaepcbdcjbfgjaaSlaw21
namespace Go.Proofs.Ytaepcbdcjbfgjaa.conjPairs
open Go.ChangeShapes Go.WideShapes Go.ChangeAt Go.RowKit
open Go Go.Proofs.Ytaepcbdcjbfgjaa.B
set_option linter.unusedVariables false

theorem own : ownKnob Try.prog.godebug = none := by kernel_rfl

set_option maxRecDepth 100000 in
theorem lifted (os : Os) (started : os.Started) (H : Type) (enc : TypeId × Value → H) :
    ReturnsInHanded {} Try.checked os 4 .any (Rows.conjPairsSpec.pre6 enc Try.prog Try.f4 Rows.conjPairsRow.domain false) (Rows.conjPairsSpec.post enc Try.prog Try.f4 false true false false) := by
  refine returnsInHanded_of_change_sized (C := Try.checked) own started (by kernel_rfl) Try.func4
    (ChangeSpec.witness6 (enc := enc) (C := Try.checked) false ⟨#[], #[.agg #[.int .i64 0, .int .i64 0, .int .i64 0, .string ⟨#[]⟩, .int .i64 0, .int .i64 0, .string ⟨#[]⟩, .slice none 0 0, .slice none 0 0, .int .i64 0], .int .i64 0], []⟩ 12 (by kernel_rfl) (by kernel_rfl) (by kernel_rfl) (by kernel_rfl)) ?_
  intro W base args ds gs before hval0 hW hcnd hz _
  have hval : ∀ (j : Nat) t v, Try.f4.params[j]? = some t → args[j]? = some v → Value.okWide Try.prog W .any base t v := hval0
  have hW2 := hW
  obtain ⟨p, q, hA0, hV, rfl, hfz, hnd⟩ := hW
  have hA : DataW.TrodAll enc Try.prog W 0 (fun _ => true) true Try.f4.params.toList args.toList ds p := hA0
  rw [Try.params4] at hA hval
  obtain ⟨v0, vs0, d0, ds0, p0, q0, hargs, rfl, rfl, h0, r0⟩ := trodAll_cons hA
  obtain ⟨v1, vs1, d1, ds1, p1, q1, rfl, rfl, rfl, h1, r1⟩ := trodAll_cons r0
  obtain ⟨rfl, rfl, rfl⟩ := trodAll_nil r1
  obtain rfl : args = #[v0, v1] := by cases args; simp_all
  obtain ⟨rfl, rfl⟩ := trodVars_none hV
  obtain ⟨a0, w0, b0⟩ := arg_st .term (und_st (t := 27) (by kernel_rfl)).choose_spec (by kernel_rfl) (hval 0 27 v0 rfl rfl) h0
  obtain ⟨a1, w1⟩ := arg_int Try.underlying3 (hval 1 3 v1 rfl rfl) h1
  have hv0 : Rows.conjPairsSpec.plain.varTypes Try.checked.prog = [] := rfl
  rw [hv0] at hz
  have hz2 : ∀ q ∈ DataW.weightsEach Try.prog Try.f4.params.toList [d0, d1], q ≤ reachBytes := by
    intro q hq
    have := List.all_eq_true.1 hz q (by rw [List.append_nil, List.append_nil]; exact hq)
    simpa using this
  rw [Try.params4] at hz2
  replace b0 := b0 (fun q hq => hz2 q (by simp only [DataW.weightsEach, List.mem_append]; simp [hq]))
  clear hA0 hval0
  simp only [List.append_nil] at hW2
  have hc := law_calls ok_l21_ConjPairs (args := [.d (.agg (B.enc Ty.term a0)), .d (.v (.s (.int .i64 a1)))]) (by
    unfold F_l21_ConjPairs
    simp only [dI_mk, dS_mk]
    rfl) (by simp) (w := W) (vs := [v0, v1]) ⟨w0, w1, trivial⟩
  refine hc.mono fun e W3 ⟨he, hg⟩ => ?_
  subst he
  exact ⟨_, rfl, law_post (by kernel_rfl) (by kernel_rfl) (tb := 4) (by kernel_rfl) Try.underlying4 rfl (fun l hl => match l, hl with | [_, _], _ => ⟨rfl, rfl, rfl⟩) hW2 hg⟩

theorem over : Rows.conjPairsRow.holds Try.pinned (OpenSpec.ofChange Rows.conjPairsSpec) :=
  OpenClaim.holds_of_wide 4 Try.f4 rfl rfl rfl rfl rfl rfl rfl ⟨rfl, rfl, rfl, rfl, rfl⟩ rfl rfl rfl rfl rfl (by kernel_rfl) Try.func4 (by kernel_rfl)
    (of_decide_eq_true (by kernel_rfl)) (by unfold Func.isWrapper; first | (rw [if_pos (by decide +kernel)]; kernel_rfl) | (rw [if_neg (by decide +kernel)]; exact ⟨rfl, rfl⟩))
    (fun os started H enc _ => lifted os started H enc)

/-- The statement. -/
theorem proved : Rows.ConjPairsSaid :=
  over
#print axioms proved
end Go.Proofs.Ytaepcbdcjbfgjaa.conjPairs
