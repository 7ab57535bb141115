/- tabellionlaw20.NaiveSorts returns true, for every input, and leaves all memory as it was. No condition. -/
import Derived.SizedLaws
import Derived.Test.YtjfpbchdcbhfgaaGreatRows
import Derived.Test.YtjfpbchdcbhfgaaGreatNsrt33
namespace Go.Proofs.YtjfpbchdcbhfgaaGreat.naiveSorts
open Go.ChangeShapes Go.WideShapes Go.ChangeAt Go.RowKit
open Go Go.Proofs.YtjfpbchdcbhfgaaGreat.B
set_option linter.unusedVariables false

theorem own : ownKnob Tryz.prog.godebug = none := by kernel_rfl

set_option maxRecDepth 100000 in
theorem lifted (os : Os) (started : os.Started) (H : Type) (enc : TypeId × Value → H) :
  ReturnsInHanded {} Tryz.checked os 8 .any (Rows.naiveSortsSpec.pre6 enc Tryz.prog Tryz.f8 Rows.naiveSortsRow.domain false) (Rows.naiveSortsSpec.post enc Tryz.prog Tryz.f8 false true false false) := by
 refine returnsInHanded_of_change_sized (C := Tryz.checked) own started (by kernel_rfl) Tryz.func8
  (ChangeSpec.witness6 (enc := enc) (C := Tryz.checked) false ⟨#[], #[.slice none 0 0, .slice none 0 0, .agg #[.int .i64 0, .int .i64 0]], []⟩ 12 (by kernel_rfl) (by kernel_rfl) (by kernel_rfl) (by kernel_rfl)) ?_
 intro W base args ds gs before hval0 hW hcnd hz _
 have hval : ∀ (j : Nat) t v, Tryz.f8.params[j]? = some t → args[j]? = some v → Value.okWide Tryz.prog W .any base t v := hval0
 have hW2 := hW
 obtain ⟨p, q, hA0, hV, rfl, hfz, hnd⟩ := hW
 have hA : DataW.TrodAll enc Tryz.prog W 0 (fun _ => true) true Tryz.f8.params.toList args.toList ds p := hA0
 rw [Tryz.params8] at hA hval
 obtain ⟨v0, vs0, d0, ds0, p0, q0, hargs, rfl, rfl, h0, r0⟩ := trodAll_cons hA
 obtain ⟨v1, vs1, d1, ds1, p1, q1, rfl, rfl, rfl, h1, r1⟩ := trodAll_cons r0
 obtain ⟨v2, vs2, d2, ds2, p2, q2, rfl, rfl, rfl, h2, r2⟩ := trodAll_cons r1
 obtain ⟨rfl, rfl, rfl⟩ := trodAll_nil r2
 obtain rfl : args = #[v0, v1, v2] := by cases args; simp_all
 obtain ⟨rfl, rfl⟩ := trodVars_none hV
 obtain ⟨a0, w0, b0⟩ := z1yi (z1yj (t := 27) (τ := .row) (by kernel_rfl)) (hval 0 27 v0 rfl rfl) h0
 obtain ⟨a1, w1, b1⟩ := z1yi (z1yj (t := 26) (τ := .by_) (by kernel_rfl)) (hval 1 26 v1 rfl rfl) h1
 obtain ⟨ar2, w2, f2_0, -⟩ := z23d (n := 2) (e := 3) (fl := [.int, .int]) (by kernel_rfl) (by kernel_rfl) (hval 2 67 v2 rfl rfl) h2
 obtain ⟨a2_0, ar2_0, rfl, f2_1⟩ := z1y f2_0
 obtain ⟨a2_1, ar2_1, rfl, f2_2⟩ := z1y f2_1
 obtain rfl := z3g f2_2
 have hv0 : Rows.naiveSortsSpec.plain.varTypes Tryz.checked.prog = [] := rfl
 rw [hv0] at hz
 have hz2 : ∀ q ∈ DataW.weightsEach Tryz.prog Tryz.f8.params.toList [d0, d1, d2], q ≤ reachBytes := by
  intro q hq
  have := List.all_eq_true.1 hz q (by rw [List.append_nil, List.append_nil]; exact hq)
  simpa using this
 rw [Tryz.params8] at hz2
 replace b0 := b0 (fun q hq => hz2 q (by simp only [DataW.weightsEach, List.mem_append]; simp [hq]))
 replace b1 := b1 (fun q hq => hz2 q (by simp only [DataW.weightsEach, List.mem_append]; simp [hq]))
 clear hA0 hval0
 simp only [List.append_nil] at hW2
 have hc := z1yk z158 (args := [.d (.v (.dat (U := Un) Ty.row a0)), .d (.v (.dat (U := Un) Ty.by_ a1)), .d (.agg [.s (.int .i64 a2_0), .s (.int .i64 a2_1)])]) (by
  unfold zhf
  simp only [znb]
  rfl) (by simp) (w := W) (vs := [v0, v1, v2]) ⟨w0, w1, w2, trivial⟩
 refine hc.mono fun e W3 ⟨he, hg⟩ => ?_
 subst he
 exact ⟨_, rfl, z216 (by kernel_rfl) (by kernel_rfl) (tb := 4) (by kernel_rfl) Tryz.underlying4 rfl (fun l hl => match l, hl with | [_, _, _], _ => ⟨rfl, rfl, rfl⟩) hW2 hg⟩

theorem over : Rows.naiveSortsRow.holds Tryz.pinned (OpenSpec.ofChange Rows.naiveSortsSpec) :=
 OpenClaim.holds_of_wide 8 Tryz.f8 rfl rfl rfl rfl rfl rfl rfl ⟨rfl, rfl, rfl, rfl, rfl⟩ rfl rfl rfl rfl rfl (by kernel_rfl) Tryz.func8 (by kernel_rfl)
  (of_decide_eq_true (by kernel_rfl)) (by unfold Func.isWrapper; first | (rw [if_pos (by decide +kernel)]; kernel_rfl) | (rw [if_neg (by decide +kernel)]; exact ⟨rfl, rfl⟩))
  (fun os started H enc _ => lifted os started H enc)

/-- The statement. -/
theorem proved : Rows.NaiveSortsSaid :=
 over
#print axioms proved
end Go.Proofs.YtjfpbchdcbhfgaaGreat.naiveSorts
