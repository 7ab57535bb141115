/- tabellionlaw26.AccessWithin returns true, for arguments of bulk at most 1048576, and leaves all memory as it was. -/
import Derived.SizedLaws
import Derived.JoinedCond
import Derived.Test.YtjmpnpkcgkhagaaAcw21
import Derived.Test.YtjmpnpkcgkhagaaRows
namespace Go.Proofs.Ytjmpnpkcgkhagaa.accessWithinUpto
open Go.ChangeShapes Go.WideShapes Go.ChangeAt Go.RowKit
open Go Go.Proofs.Ytjmpnpkcgkhagaa.B
set_option linter.unusedVariables false

theorem own : ownKnob Try.prog.godebug = none := by kernel_rfl

set_option maxRecDepth 100000 in
theorem lifted (os : Os) (started : os.Started) (H : Type) (enc : TypeId × Value → H) (F : Stop.Interp) :
    ReturnsInHanded {} Try.checked os 3 .any ((Rows.OpenSpec.upto Rows.accessWithinSpec).pre6 enc Try.prog Try.f3 Rows.accessWithinUptoRow.domain false) (((Rows.OpenSpec.upto Rows.accessWithinSpec).at F).post enc Try.prog Try.f3 false true false false) := by
  refine returnsInHanded_of_cond (C := Try.checked) (s := Rows.OpenSpec.upto Rows.accessWithinSpec) (k := Rows.uptoSmall) rfl own started (by kernel_rfl) Try.func3
    (OpenSpec.witness (enc := enc) (C := Try.checked) (s := Rows.OpenSpec.upto Rows.accessWithinSpec) (k := Rows.uptoSmall) rfl false ⟨#[], #[.slice none 0 0, .slice none 0 0, .slice none 0 0], []⟩ 12 (by kernel_rfl) (by kernel_rfl) (by kernel_rfl)
      (x := ([.nil, .nil, .nil], [], [])) (by kernel_rfl) rfl (by kernel_rfl)) ?_
  intro W base args ds gs before hval0 hW hcnd hk _
  have hval : ∀ (j : Nat) t v, Try.f3.params[j]? = some t → args[j]? = some v → Value.okWide Try.prog W .any base t v := hval0
  have hW2 := hW
  obtain ⟨p, q, hA0, hV, rfl, hfz, hnd⟩ := hW
  have hA : DataW.TrodAll enc Try.prog W 0 (fun _ => true) true Try.f3.params.toList args.toList ds p := hA0
  rw [Try.params3] at hA hval
  obtain ⟨v0, vs0, d0, ds0, p0, q0, hargs, rfl, rfl, h0, r0⟩ := trodAll_cons hA
  obtain ⟨v1, vs1, d1, ds1, p1, q1, rfl, rfl, rfl, h1, r1⟩ := trodAll_cons r0
  obtain ⟨v2, vs2, d2, ds2, p2, q2, rfl, rfl, rfl, h2, r2⟩ := trodAll_cons r1
  obtain ⟨rfl, rfl, rfl⟩ := trodAll_nil r2
  obtain rfl : args = #[v0, v1, v2] := by cases args; simp_all
  obtain ⟨rfl, rfl⟩ := trodVars_none hV
  obtain ⟨a0, w0, -, b0⟩ := arg_slU (tiL_sl (t := 22) (τ := .term) (by kernel_rfl)) (hval 0 22 v0 rfl rfl) h0
  obtain ⟨a1, w1, -, b1⟩ := arg_slU (tiL_sl (t := 23) (τ := .int) (by kernel_rfl)) (hval 1 23 v1 rfl rfl) h1
  obtain ⟨a2, w2, -, b2⟩ := arg_slU (tiL_sl (t := 25) (τ := .val) (by kernel_rfl)) (hval 2 25 v2 rfl rfl) h2
  have hsum : Rows.uptoBulkAll ([d0, d1, d2] ++ []) ≤ 1048576 := of_decide_eq_true hk
  simp only [List.append_nil, Rows.uptoBulkAll] at hsum
  clear hA0 hval0
  simp only [List.append_nil] at hW2
  have hc := law_calls ok_l26_AccessWithin (args := [.d (.v (.dat (U := Un) Ty.term a0)), .d (.v (.dat (U := Un) Ty.int a1)), .d (.v (.dat (U := Un) Ty.val a2))]) (by
    unfold F_l26_AccessWithin
    simp only [dL_mk]
    rfl) (by
    intro p hp
    simp only [List.mem_cons, List.not_mem_nil, or_false] at hp
    have e0 := bkTs a0 _ b0
    rcases hp with rfl | rfl | rfl
    · omega
    · exact bkStrs a0 _ b0 (by omega)
    · exact env_one (bkRow a2 _ b2 (by omega))) (w := W) (vs := [v0, v1, v2]) ⟨w0, w1, w2, trivial⟩
  refine hc.mono fun e W3 ⟨he, hg⟩ => ?_
  subst he
  exact ⟨_, rfl, law_post (by kernel_rfl) (by kernel_rfl) (tb := 4) (by kernel_rfl) Try.underlying4 rfl (fun l hl => match l, hl with | [_, _, _], _ => ⟨rfl, rfl, rfl⟩) hW2 hg⟩

theorem over : Rows.accessWithinUptoRow.holds Try.pinned (Rows.OpenSpec.upto Rows.accessWithinSpec) :=
  OpenClaim.holds_of_cond 3 Try.f3 rfl rfl rfl rfl rfl rfl rfl ⟨rfl, rfl, rfl, rfl, rfl⟩ rfl rfl rfl rfl rfl (by kernel_rfl) Try.func3 (by kernel_rfl)
    (of_decide_eq_true (by kernel_rfl)) (by unfold Func.isWrapper; first | (rw [if_pos (by decide +kernel)]; kernel_rfl) | (rw [if_neg (by decide +kernel)]; exact ⟨rfl, rfl⟩))
    (fun os started H enc _ F => lifted os started H enc F)

/-- The statement. -/
theorem proved : Rows.AccessWithinUptoSaid :=
  over
#print axioms proved
end Go.Proofs.Ytjmpnpkcgkhagaa.accessWithinUpto
