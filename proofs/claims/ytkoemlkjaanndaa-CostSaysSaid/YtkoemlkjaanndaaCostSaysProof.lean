/- For every four numbers tabellionlaw25.CostSays returns true, and leaves all memory as it was. No condition. -/
import Derived.Test.YtkoemlkjaanndaaRows
import Derived.Test.YtkoemlkjaanndaaCostR
import Derived.Test.YtkoemlkjaanndaaArrArg
import Derived.Deep.RegionHeld3
namespace Go.Proofs.Ytkoemlkjaanndaa.costSays
open Go.ChangeShapes Go.WideShapes Go.ChangeAt Go.RowKit
open K

theorem own : ownKnob Try.prog.godebug = none := by kernel_rfl

set_option maxHeartbeats 2000000 in
theorem walk (a b c d : Int) (w : World) :
    Calls Try.prog 4 #[.agg #[.int .i64 a, .int .i64 b, .int .i64 c, .int .i64 d]] w fun e w' => e = .returned (.bool true) ∧ Ext w w' := by
  have hbd := all_bd a b c d
  have HB := Lib.hid hbd
  clear hbd
  go_enter Try.func4, Try.ntmps4
  go_wp2_with fail
  go_region_held3 (fun w' => w'.cell? ⟨w.heap.size, 0, none⟩ = some (.int .i64 a) ∧ w'.cell? ⟨w.heap.size, 1, none⟩ = some (.int .i64 b) ∧ w'.cell? ⟨w.heap.size, 2, none⟩ = some (.int .i64 c) ∧ w'.cell? ⟨w.heap.size, 3, none⟩ = some (.int .i64 d))
    (first | go_keep | (go_split_ands; exact ⟨x2.keeps (by assumption), x2.keeps (by assumption), x2.keeps (by assumption), x2.keeps (by assumption)⟩) | exact ⟨x1.keeps (by simp), x1.keeps (by simp), x1.keeps (by simp), x1.keeps (by simp)⟩)
    (first | (go_at_call 10; refine (all_any _ _ _ _ _).mono ?_; rintro e w1 ⟨b1, rfl, x1, g1, l1, c1⟩; have C1 := Lib.hid c1; clear c1) | (go_at_call 11; refine (rall_any _ _ _ _ _).mono ?_; rintro e w2 ⟨b2, rfl, x2, g2, l2, c2⟩; have C2 := Lib.hid c2; clear c2))
  have d1 := fun i hi => x2.keeps (C1.out i hi)
  have D1 := Lib.hid d1
  clear d1 C1
  go_wp2_with fail
  go_loopw [5] (fun i wr => ∃ k : Nat, k ≤ 9 ∧ i = .int .i64 k ∧ Ext w2 wr) (fun i _ => 9 - (intOf i).toNat)
  case atStart => exact ⟨0, by omega, rfl, Ext.refl _⟩
  case round =>
    obtain ⟨k, hk, rfl, hw⟩ := hrel
    by_cases hlt : k < 9
    · have e1 := hw.keeps (D1.out k hlt)
      have e2 := hw.keeps (C2.out k hlt)
      have e3 := HB.out k
      generalize (all a b c d).getD k 0 = u1 at e1 e2 e3
      have e4 : (u1 != u1) = false := by simp
      have e5 : decide (u1 < 0) = false := by simp; omega
      have e6 : decide (1000000000000 < u1) = false := by simp; omega
      go_wp2_with fail
      go_quiet (fail)
      go_wp2_with fail
      go_roundw
      case rel => exact ⟨k + 1, by omega, by go_num, (by repeat (first | assumption | exact Ext.refl _ | (refine Ext.trans ?_ (by assumption)) | apply Ext.alloc | apply Ext.drew | apply Ext.drewN))⟩
      case measure => simp [intOf]; omega
    · go_wp2_with ((go_at_call 7; refine (awake_any _).mono ?_; rintro e w1 ⟨rfl, x1⟩))
      go_ret
      exact ⟨rfl, (by repeat (first | assumption | exact Ext.refl _ | (refine Ext.trans ?_ (by assumption)) | apply Ext.alloc | apply Ext.drew | apply Ext.drewN))⟩

set_option maxRecDepth 100000 in
theorem lifted (os : Os) (started : os.Started) (H : Type) (enc : TypeId × Value → H) :
    ReturnsInHanded {} Try.checked os 4 .any (Rows.costSaysSpec.pre6 enc Try.prog Try.f4 Rows.costSaysRow.domain false) (Rows.costSaysSpec.post enc Try.prog Try.f4 false true false false) := by
  refine returnsInHanded_of_change (C := Try.checked) own started (by kernel_rfl) Try.func4
    (ChangeSpec.witness6 (enc := enc) (C := Try.checked) false ⟨#[], #[.agg #[.int .i64 0, .int .i64 0, .int .i64 0, .int .i64 0]], []⟩ 8 (by kernel_rfl) (by kernel_rfl) (by kernel_rfl) (by kernel_rfl)) ?_
  intro W base args ds gs before hval0 hW hcnd _
  have hval : ∀ (j : Nat) t v, Try.f4.params[j]? = some t → args[j]? = some v → Value.okWide Try.prog W .any base t v := hval0
  have hW' := hW
  obtain ⟨p, q, hA0, hV, rfl, hfz, hnd⟩ := hW
  have hA : DataW.TrodAll enc Try.prog W 0 (fun _ => true) true Try.f4.params.toList args.toList ds p := hA0
  rw [Try.params4] at hA hval
  obtain ⟨v0, d0, rfl, rfl, h0⟩ := trodAll_one hA
  obtain ⟨rfl, rfl⟩ := trodVars_none hV
  obtain ⟨a, b, c, d, rfl, _⟩ := open_arr4 Try.underlying25 Try.underlying3 (by kernel_rfl) (by kernel_rfl) (hval 0 25 v0 rfl rfl) h0
  refine (walk a b c d W).mono fun e W' ⟨he, hg⟩ => ?_
  subst he
  exact ⟨_, rfl, law_post (by kernel_rfl) (by kernel_rfl) (tb := 4) (by kernel_rfl) Try.underlying4 rfl (fun l hl => match l, hl with | [_], _ => ⟨rfl, rfl, rfl⟩) hW' hg⟩

theorem over : Rows.costSaysRow.holds Try.pinned (OpenSpec.ofChange Rows.costSaysSpec) :=
  OpenClaim.holds_of_wide 4 Try.f4 rfl rfl rfl rfl rfl rfl rfl ⟨rfl, rfl, rfl, rfl, rfl⟩ rfl rfl rfl rfl rfl (by kernel_rfl) Try.func4 (by kernel_rfl)
    (of_decide_eq_true (by kernel_rfl)) (by unfold Func.isWrapper; first | (rw [if_pos (by decide +kernel)]; kernel_rfl) | (rw [if_neg (by decide +kernel)]; exact ⟨rfl, rfl⟩))
    (fun os started H enc _ => lifted os started H enc)

/-- The statement. -/
theorem proved : Rows.CostSaysSaid := over
#print axioms proved
end Go.Proofs.Ytkoemlkjaanndaa.costSays
