/- tabellionlaw26.AccessBest returns true, for every input, and leaves all memory as it was. No condition. -/
import Derived.Test.YtohpgnpjijpedaaRows
import Derived.Test.YtohpgnpjijpedaaBLaw
import Derived.Test.YtohpgnpjijpedaaSlaw26a
namespace Go.Proofs.Ytohpgnpjijpedaa.accessBest
open Go.ChangeShapes Go.WideShapes Go.ChangeAt Go.RowKit
open Go Go.Proofs.Ytohpgnpjijpedaa.B
set_option linter.unusedVariables false

theorem own : ownKnob Try.prog.godebug = none := by kernel_rfl

set_option maxRecDepth 100000 in
theorem lifted (os : Os) (started : os.Started) (H : Type) (enc : TypeId × Value → H) :
    ReturnsInHanded {} Try.checked os 4 .any (Rows.accessBestSpec.pre6 enc Try.prog Try.f4 Rows.accessBestRow.domain false) (Rows.accessBestSpec.post enc Try.prog Try.f4 false true false false) := by
  refine returnsInHanded_of_change (C := Try.checked) own started (by kernel_rfl) Try.func4
    (ChangeSpec.witness6 (enc := enc) (C := Try.checked) false ⟨#[], #[.slice none 0 0], []⟩ 12 (by kernel_rfl) (by kernel_rfl) (by kernel_rfl) (by kernel_rfl)) ?_
  intro W base args ds gs before hval0 hW hcnd _
  have hval : ∀ (j : Nat) t v, Try.f4.params[j]? = some t → args[j]? = some v → Value.okWide Try.prog W .any base t v := hval0
  have hW2 := hW
  obtain ⟨p, q, hA0, hV, rfl, hfz, hnd⟩ := hW
  have hA : DataW.TrodAll enc Try.prog W 0 (fun _ => true) true Try.f4.params.toList args.toList ds p := hA0
  rw [Try.params4] at hA hval
  obtain ⟨v0, vs0, d0, ds0, p0, q0, hargs, rfl, rfl, h0, r0⟩ := trodAll_cons hA
  obtain ⟨rfl, rfl, rfl⟩ := trodAll_nil r0
  obtain rfl : args = #[v0] := by cases args; simp_all
  obtain ⟨rfl, rfl⟩ := trodVars_none hV
  obtain ⟨a0, w0⟩ := arg_sl (tiL_sl (t := 23) (τ := .int) (by kernel_rfl)) (hval 0 23 v0 rfl rfl) h0
  clear hA0 hval0
  simp only [List.append_nil] at hW2
  have hc := law_calls ok_l26_AccessBest (args := [.d (.v (.dat (U := Un) Ty.int a0))]) (by
    unfold F_l26_AccessBest
    simp only [dL_mk]
    rfl) (w := W) (vs := [v0]) ⟨w0, trivial⟩
  refine hc.mono fun e W3 ⟨he, hg⟩ => ?_
  subst he
  exact ⟨_, rfl, law_post (by kernel_rfl) (by kernel_rfl) (tb := 4) (by kernel_rfl) Try.underlying4 rfl (fun l hl => match l, hl with | [_], _ => ⟨rfl, rfl, rfl⟩) hW2 hg⟩

theorem over : Rows.accessBestRow.holds Try.pinned (OpenSpec.ofChange Rows.accessBestSpec) :=
  OpenClaim.holds_of_wide 4 Try.f4 rfl rfl rfl rfl rfl rfl rfl ⟨rfl, rfl, rfl, rfl, rfl⟩ rfl rfl rfl rfl rfl (by kernel_rfl) Try.func4 (by kernel_rfl)
    (of_decide_eq_true (by kernel_rfl)) (by unfold Func.isWrapper; first | (rw [if_pos (by decide +kernel)]; kernel_rfl) | (rw [if_neg (by decide +kernel)]; exact ⟨rfl, rfl⟩))
    (fun os started H enc _ => lifted os started H enc)

/-- The statement. -/
theorem proved : Rows.AccessBestSaid :=
  over
#print axioms proved
end Go.Proofs.Ytohpgnpjijpedaa.accessBest
