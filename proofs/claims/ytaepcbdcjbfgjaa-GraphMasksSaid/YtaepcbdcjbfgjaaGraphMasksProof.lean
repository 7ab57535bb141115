/- tabellionlaw27.GraphMasks returns true, for every input, and leaves all memory as it was. No condition. -/
import Derived.SizedLaws
import Derived.Test.YtaepcbdcjbfgjaaRows
import Derived.Test.YtaepcbdcjbfgjaaBLaw
import Derived.Test.YtaepcbdcjbfgjaaSlaw27
namespace Go.Proofs.Ytaepcbdcjbfgjaa.graphMasks
open Go.ChangeShapes Go.WideShapes Go.ChangeAt Go.RowKit
open Go Go.Proofs.Ytaepcbdcjbfgjaa.B
set_option linter.unusedVariables false

theorem own : ownKnob Try.prog.godebug = none := by kernel_rfl

set_option maxRecDepth 100000 in
theorem lifted (os : Os) (started : os.Started) (H : Type) (enc : TypeId × Value → H) :
    ReturnsInHanded {} Try.checked os 7 .any (Rows.graphMasksSpec.pre6 enc Try.prog Try.f7 Rows.graphMasksRow.domain false) (Rows.graphMasksSpec.post enc Try.prog Try.f7 false true false false) := by
  refine returnsInHanded_of_change_sized (C := Try.checked) own started (by kernel_rfl) Try.func7
    (ChangeSpec.witness6 (enc := enc) (C := Try.checked) false ⟨#[], #[.agg #[.int .i64 0, .int .i64 0, .int .i64 0, .string ⟨#[]⟩, .int .i64 0, .int .i64 0, .string ⟨#[]⟩, .slice none 0 0, .slice none 0 0, .int .i64 0], .agg #[.int .i64 0, .int .i64 0, .int .i64 0, .string ⟨#[]⟩, .int .i64 0, .int .i64 0, .string ⟨#[]⟩, .slice none 0 0, .slice none 0 0, .int .i64 0], .slice none 0 0], []⟩ 12 (by kernel_rfl) (by kernel_rfl) (by kernel_rfl) (by kernel_rfl)) ?_
  intro W base args ds gs before hval0 hW hcnd hz _
  have hval : ∀ (j : Nat) t v, Try.f7.params[j]? = some t → args[j]? = some v → Value.okWide Try.prog W .any base t v := hval0
  have hW2 := hW
  obtain ⟨p, q, hA0, hV, rfl, hfz, hnd⟩ := hW
  have hA : DataW.TrodAll enc Try.prog W 0 (fun _ => true) true Try.f7.params.toList args.toList ds p := hA0
  rw [Try.params7] at hA hval
  obtain ⟨v0, vs0, d0, ds0, p0, q0, hargs, rfl, rfl, h0, r0⟩ := trodAll_cons hA
  obtain ⟨v1, vs1, d1, ds1, p1, q1, rfl, rfl, rfl, h1, r1⟩ := trodAll_cons r0
  obtain ⟨v2, vs2, d2, ds2, p2, q2, rfl, rfl, rfl, h2, r2⟩ := trodAll_cons r1
  obtain ⟨rfl, rfl, rfl⟩ := trodAll_nil r2
  obtain rfl : args = #[v0, v1, v2] := by cases args; simp_all
  obtain ⟨rfl, rfl⟩ := trodVars_none hV
  obtain ⟨a0, w0, b0⟩ := arg_st .term (und_st (t := 27) (by kernel_rfl)).choose_spec (by kernel_rfl) (hval 0 27 v0 rfl rfl) h0
  obtain ⟨a1, w1, b1⟩ := arg_st .term (und_st (t := 27) (by kernel_rfl)).choose_spec (by kernel_rfl) (hval 1 27 v1 rfl rfl) h1
  obtain ⟨a2, w2, b2⟩ := arg_sl (tiL_sl (t := 28) (τ := .int) (by kernel_rfl)) (hval 2 28 v2 rfl rfl) h2
  have hv0 : Rows.graphMasksSpec.plain.varTypes Try.checked.prog = [] := rfl
  rw [hv0] at hz
  have hz2 : ∀ q ∈ DataW.weightsEach Try.prog Try.f7.params.toList [d0, d1, d2], q ≤ reachBytes := by
    intro q hq
    have := List.all_eq_true.1 hz q (by rw [List.append_nil, List.append_nil]; exact hq)
    simpa using this
  rw [Try.params7] at hz2
  replace b0 := b0 (fun q hq => hz2 q (by simp only [DataW.weightsEach, List.mem_append]; simp [hq]))
  replace b1 := b1 (fun q hq => hz2 q (by simp only [DataW.weightsEach, List.mem_append]; simp [hq]))
  replace b2 := b2 (fun q hq => hz2 q (by simp only [DataW.weightsEach, List.mem_append]; simp [hq]))
  clear hA0 hval0
  simp only [List.append_nil] at hW2
  have hc := law_calls ok_l27_GraphMasks (args := [.d (.agg (B.enc Ty.term a0)), .d (.agg (B.enc Ty.term a1)), .d (.v (.dat (U := Un) Ty.int a2))]) (by
    unfold F_l27_GraphMasks
    simp only [dL_mk, dS_mk]
    rfl) (by simp) (w := W) (vs := [v0, v1, v2]) ⟨w0, w1, w2, trivial⟩
  refine hc.mono fun e W3 ⟨he, hg⟩ => ?_
  subst he
  exact ⟨_, rfl, law_post (by kernel_rfl) (by kernel_rfl) (tb := 4) (by kernel_rfl) Try.underlying4 rfl (fun l hl => match l, hl with | [_, _, _], _ => ⟨rfl, rfl, rfl⟩) hW2 hg⟩

theorem over : Rows.graphMasksRow.holds Try.pinned (OpenSpec.ofChange Rows.graphMasksSpec) :=
  OpenClaim.holds_of_wide 7 Try.f7 rfl rfl rfl rfl rfl rfl rfl ⟨rfl, rfl, rfl, rfl, rfl⟩ rfl rfl rfl rfl rfl (by kernel_rfl) Try.func7 (by kernel_rfl)
    (of_decide_eq_true (by kernel_rfl)) (by unfold Func.isWrapper; first | (rw [if_pos (by decide +kernel)]; kernel_rfl) | (rw [if_neg (by decide +kernel)]; exact ⟨rfl, rfl⟩))
    (fun os started H enc _ => lifted os started H enc)

/-- The statement. -/
theorem proved : Rows.GraphMasksSaid :=
  over
#print axioms proved
end Go.Proofs.Ytaepcbdcjbfgjaa.graphMasks
