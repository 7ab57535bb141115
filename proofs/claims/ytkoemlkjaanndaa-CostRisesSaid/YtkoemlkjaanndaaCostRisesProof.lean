/- For every four numbers, every place and every number tabellionlaw25.CostRises returns true, and leaves all memory as it was. No condition. -/
import Derived.Test.YtkoemlkjaanndaaRows
import Derived.Test.YtkoemlkjaanndaaCostL
import Derived.Test.YtkoemlkjaanndaaArrArg
namespace Go.Proofs.Ytkoemlkjaanndaa.costRises
open Go.ChangeShapes Go.WideShapes Go.ChangeAt Go.RowKit
open K

theorem own : ownKnob Try.prog.godebug = none := by kernel_rfl

theorem keep9 {w w' : World} (h : Ext w w') {b : Nat} {l : List Int} (hc : ∀ i, i < 9 → w.cell? ⟨b, i, none⟩ = some (.int .i64 (l.getD i 0))) : ∀ i, i < 9 → w'.cell? ⟨b, i, none⟩ = some (.int .i64 (l.getD i 0)) :=
  fun i hi => h.keeps (hc i hi)
theorem set9 {w : World} {p : Addr} {v : Value} {b : Nat} (hb : p.block < b) {l : List Int} (hc : ∀ i, i < 9 → w.cell? ⟨b, i, none⟩ = some (.int .i64 (l.getD i 0))) : ∀ i, i < 9 → (w.setCell p v).cell? ⟨b, i, none⟩ = some (.int .i64 (l.getD i 0)) :=
  fun i hi => (World.cell?_of_block (w := w) (Below.heap_setCell _ _ _ _ (by show b ≠ p.block; omega))).trans (hc i hi)
theorem ext_set {w w' : World} {p : Addr} {v : Value} {o : Obj} (hp : p.block = w.heap.size) (h : Ext (w.alloc o) w') : Ext w (w'.setCell p v) :=
  (((Ext.refl w).alloc o).trans h).setCell (by omega) v

theorem out (a b c d p m : Int) (w : World) (h : p < 0 ∨ 3 < p) :
    Calls Try.prog 5 #[.agg #[.int .i64 a, .int .i64 b, .int .i64 c, .int .i64 d], .int .i64 p, .int .i64 m] w fun e w' => e = .returned (.bool true) ∧ Ext w w' := by
  rcases h with h | h
  · go_enter Try.func5, Try.ntmps5
    go_wp2_with ((go_at_call 7; refine (awake_any _).mono ?_; rintro e w1 ⟨rfl, x1⟩))
    go_ret
    exact ⟨rfl, (by repeat (first | assumption | exact Ext.refl _ | (refine Ext.trans ?_ (by assumption)) | apply Ext.alloc | apply Ext.drew | apply Ext.drewN))⟩
  · have h' : ¬ p < 0 := by omega
    go_enter Try.func5, Try.ntmps5
    go_wp2_with ((go_at_call 7; refine (awake_any _).mono ?_; rintro e w1 ⟨rfl, x1⟩))
    go_ret
    exact ⟨rfl, (by repeat (first | assumption | exact Ext.refl _ | (refine Ext.trans ?_ (by assumption)) | apply Ext.alloc | apply Ext.drew | apply Ext.drewN))⟩

set_option maxHeartbeats 1000000 in
theorem at0 (a b c d m : Int) (w : World) :
    Calls Try.prog 5 #[.agg #[.int .i64 a, .int .i64 b, .int .i64 c, .int .i64 d], .int .i64 0, .int .i64 m] w fun e w' => e = .returned (.bool true) ∧ Ext w w' := by
  by_cases hm : m < a
  · go_enter Try.func5, Try.ntmps5
    go_wp2_with ((go_at_call 7; refine (awake_any _).mono ?_; rintro e w1 ⟨rfl, x1⟩))
    go_ret
    exact ⟨rfl, (by repeat (first | assumption | exact Ext.refl _ | (refine Ext.trans ?_ (by assumption)) | apply Ext.alloc | apply Ext.drew | apply Ext.drewN))⟩
  · have hmo := fun i => all_mono (a := a) (b := b) (c := c) (d := d) (a' := m) (b' := b) (c' := c) (d' := d) (by omega) (by omega) (by omega) (by omega) i
    have HM := Lib.hid hmo
    clear hmo
    go_enter Try.func5, Try.ntmps5
    go_wp2_with fail
    refine (all_any _ _ _ _ _).mono ?_
    rintro e w1 ⟨b1, rfl, x1, g1, l1, c1⟩
    have C1 := Lib.hid c1
    clear c1
    obtain ⟨hc1, hf1⟩ := x1.both
    go_wp2_with fail
    clear hc1 hf1
    refine (all_any _ _ _ _ _).mono ?_
    rintro e w2 ⟨b2, rfl, x2, g2, l2, c2⟩
    have c1' := keep9 x2 (set9 (by simp at g1 ⊢; omega) C1.out)
    have hx : Ext w w2 := (ext_set rfl x1).trans x2
    have D1 := Lib.hid c1'
    have D2 := Lib.hid c2
    clear c1' c2 C1 g2 l2
    go_wp2_with fail
    go_loopw [9] (fun i wr => ∃ k : Nat, k ≤ 9 ∧ i = .int .i64 k ∧ Ext w2 wr) (fun i _ => 9 - (intOf i).toNat)
    case atStart => exact ⟨0, by omega, rfl, Ext.refl _⟩
    case round =>
      obtain ⟨k, hk, rfl, hw⟩ := hrel
      by_cases hlt : k < 9
      · have e1 := hw.keeps (D1.out k hlt)
        have e2 := hw.keeps (D2.out k hlt)
        have e3 := HM.out k
        generalize (all a b c d).getD k 0 = u1 at e1 e3
        generalize (all m b c d).getD k 0 = u2 at e2 e3
        have e4 : decide (u2 < u1) = false := by simp; omega
        go_wp2_with fail
        go_quiet (fail)
        go_wp2_with fail
        go_roundw
        case rel => exact ⟨k + 1, by omega, by go_num, (by repeat (first | assumption | exact Ext.refl _ | (refine Ext.trans ?_ (by assumption)) | apply Ext.alloc | apply Ext.drew | apply Ext.drewN))⟩
        case measure => simp [intOf]; omega
      · go_wp2_with ((go_at_call 7; refine (awake_any _).mono ?_; rintro e w1 ⟨rfl, x1⟩))
        go_ret
        exact ⟨rfl, (by repeat (first | assumption | exact Ext.refl _ | (refine Ext.trans ?_ (by assumption)) | apply Ext.alloc | apply Ext.drew | apply Ext.drewN))⟩

set_option maxHeartbeats 1000000 in
theorem at1 (a b c d m : Int) (w : World) :
    Calls Try.prog 5 #[.agg #[.int .i64 a, .int .i64 b, .int .i64 c, .int .i64 d], .int .i64 1, .int .i64 m] w fun e w' => e = .returned (.bool true) ∧ Ext w w' := by
  by_cases hm : m < b
  · go_enter Try.func5, Try.ntmps5
    go_wp2_with ((go_at_call 7; refine (awake_any _).mono ?_; rintro e w1 ⟨rfl, x1⟩))
    go_ret
    exact ⟨rfl, (by repeat (first | assumption | exact Ext.refl _ | (refine Ext.trans ?_ (by assumption)) | apply Ext.alloc | apply Ext.drew | apply Ext.drewN))⟩
  · have hmo := fun i => all_mono (a := a) (b := b) (c := c) (d := d) (b' := m) (a' := a) (c' := c) (d' := d) (by omega) (by omega) (by omega) (by omega) i
    have HM := Lib.hid hmo
    clear hmo
    go_enter Try.func5, Try.ntmps5
    go_wp2_with fail
    refine (all_any _ _ _ _ _).mono ?_
    rintro e w1 ⟨b1, rfl, x1, g1, l1, c1⟩
    have C1 := Lib.hid c1
    clear c1
    obtain ⟨hc1, hf1⟩ := x1.both
    go_wp2_with fail
    clear hc1 hf1
    refine (all_any _ _ _ _ _).mono ?_
    rintro e w2 ⟨b2, rfl, x2, g2, l2, c2⟩
    have c1' := keep9 x2 (set9 (by simp at g1 ⊢; omega) C1.out)
    have hx : Ext w w2 := (ext_set rfl x1).trans x2
    have D1 := Lib.hid c1'
    have D2 := Lib.hid c2
    clear c1' c2 C1 g2 l2
    go_wp2_with fail
    go_loopw [9] (fun i wr => ∃ k : Nat, k ≤ 9 ∧ i = .int .i64 k ∧ Ext w2 wr) (fun i _ => 9 - (intOf i).toNat)
    case atStart => exact ⟨0, by omega, rfl, Ext.refl _⟩
    case round =>
      obtain ⟨k, hk, rfl, hw⟩ := hrel
      by_cases hlt : k < 9
      · have e1 := hw.keeps (D1.out k hlt)
        have e2 := hw.keeps (D2.out k hlt)
        have e3 := HM.out k
        generalize (all a b c d).getD k 0 = u1 at e1 e3
        generalize (all a m c d).getD k 0 = u2 at e2 e3
        have e4 : decide (u2 < u1) = false := by simp; omega
        go_wp2_with fail
        go_quiet (fail)
        go_wp2_with fail
        go_roundw
        case rel => exact ⟨k + 1, by omega, by go_num, (by repeat (first | assumption | exact Ext.refl _ | (refine Ext.trans ?_ (by assumption)) | apply Ext.alloc | apply Ext.drew | apply Ext.drewN))⟩
        case measure => simp [intOf]; omega
      · go_wp2_with ((go_at_call 7; refine (awake_any _).mono ?_; rintro e w1 ⟨rfl, x1⟩))
        go_ret
        exact ⟨rfl, (by repeat (first | assumption | exact Ext.refl _ | (refine Ext.trans ?_ (by assumption)) | apply Ext.alloc | apply Ext.drew | apply Ext.drewN))⟩

set_option maxHeartbeats 1000000 in
theorem at2 (a b c d m : Int) (w : World) :
    Calls Try.prog 5 #[.agg #[.int .i64 a, .int .i64 b, .int .i64 c, .int .i64 d], .int .i64 2, .int .i64 m] w fun e w' => e = .returned (.bool true) ∧ Ext w w' := by
  by_cases hm : m < c
  · go_enter Try.func5, Try.ntmps5
    go_wp2_with ((go_at_call 7; refine (awake_any _).mono ?_; rintro e w1 ⟨rfl, x1⟩))
    go_ret
    exact ⟨rfl, (by repeat (first | assumption | exact Ext.refl _ | (refine Ext.trans ?_ (by assumption)) | apply Ext.alloc | apply Ext.drew | apply Ext.drewN))⟩
  · have hmo := fun i => all_mono (a := a) (b := b) (c := c) (d := d) (c' := m) (a' := a) (b' := b) (d' := d) (by omega) (by omega) (by omega) (by omega) i
    have HM := Lib.hid hmo
    clear hmo
    go_enter Try.func5, Try.ntmps5
    go_wp2_with fail
    refine (all_any _ _ _ _ _).mono ?_
    rintro e w1 ⟨b1, rfl, x1, g1, l1, c1⟩
    have C1 := Lib.hid c1
    clear c1
    obtain ⟨hc1, hf1⟩ := x1.both
    go_wp2_with fail
    clear hc1 hf1
    refine (all_any _ _ _ _ _).mono ?_
    rintro e w2 ⟨b2, rfl, x2, g2, l2, c2⟩
    have c1' := keep9 x2 (set9 (by simp at g1 ⊢; omega) C1.out)
    have hx : Ext w w2 := (ext_set rfl x1).trans x2
    have D1 := Lib.hid c1'
    have D2 := Lib.hid c2
    clear c1' c2 C1 g2 l2
    go_wp2_with fail
    go_loopw [9] (fun i wr => ∃ k : Nat, k ≤ 9 ∧ i = .int .i64 k ∧ Ext w2 wr) (fun i _ => 9 - (intOf i).toNat)
    case atStart => exact ⟨0, by omega, rfl, Ext.refl _⟩
    case round =>
      obtain ⟨k, hk, rfl, hw⟩ := hrel
      by_cases hlt : k < 9
      · have e1 := hw.keeps (D1.out k hlt)
        have e2 := hw.keeps (D2.out k hlt)
        have e3 := HM.out k
        generalize (all a b c d).getD k 0 = u1 at e1 e3
        generalize (all a b m d).getD k 0 = u2 at e2 e3
        have e4 : decide (u2 < u1) = false := by simp; omega
        go_wp2_with fail
        go_quiet (fail)
        go_wp2_with fail
        go_roundw
        case rel => exact ⟨k + 1, by omega, by go_num, (by repeat (first | assumption | exact Ext.refl _ | (refine Ext.trans ?_ (by assumption)) | apply Ext.alloc | apply Ext.drew | apply Ext.drewN))⟩
        case measure => simp [intOf]; omega
      · go_wp2_with ((go_at_call 7; refine (awake_any _).mono ?_; rintro e w1 ⟨rfl, x1⟩))
        go_ret
        exact ⟨rfl, (by repeat (first | assumption | exact Ext.refl _ | (refine Ext.trans ?_ (by assumption)) | apply Ext.alloc | apply Ext.drew | apply Ext.drewN))⟩

set_option maxHeartbeats 1000000 in
theorem at3 (a b c d m : Int) (w : World) :
    Calls Try.prog 5 #[.agg #[.int .i64 a, .int .i64 b, .int .i64 c, .int .i64 d], .int .i64 3, .int .i64 m] w fun e w' => e = .returned (.bool true) ∧ Ext w w' := by
  by_cases hm : m < d
  · go_enter Try.func5, Try.ntmps5
    go_wp2_with ((go_at_call 7; refine (awake_any _).mono ?_; rintro e w1 ⟨rfl, x1⟩))
    go_ret
    exact ⟨rfl, (by repeat (first | assumption | exact Ext.refl _ | (refine Ext.trans ?_ (by assumption)) | apply Ext.alloc | apply Ext.drew | apply Ext.drewN))⟩
  · have hmo := fun i => all_mono (a := a) (b := b) (c := c) (d := d) (d' := m) (a' := a) (b' := b) (c' := c) (by omega) (by omega) (by omega) (by omega) i
    have HM := Lib.hid hmo
    clear hmo
    go_enter Try.func5, Try.ntmps5
    go_wp2_with fail
    refine (all_any _ _ _ _ _).mono ?_
    rintro e w1 ⟨b1, rfl, x1, g1, l1, c1⟩
    have C1 := Lib.hid c1
    clear c1
    obtain ⟨hc1, hf1⟩ := x1.both
    go_wp2_with fail
    clear hc1 hf1
    refine (all_any _ _ _ _ _).mono ?_
    rintro e w2 ⟨b2, rfl, x2, g2, l2, c2⟩
    have c1' := keep9 x2 (set9 (by simp at g1 ⊢; omega) C1.out)
    have hx : Ext w w2 := (ext_set rfl x1).trans x2
    have D1 := Lib.hid c1'
    have D2 := Lib.hid c2
    clear c1' c2 C1 g2 l2
    go_wp2_with fail
    go_loopw [9] (fun i wr => ∃ k : Nat, k ≤ 9 ∧ i = .int .i64 k ∧ Ext w2 wr) (fun i _ => 9 - (intOf i).toNat)
    case atStart => exact ⟨0, by omega, rfl, Ext.refl _⟩
    case round =>
      obtain ⟨k, hk, rfl, hw⟩ := hrel
      by_cases hlt : k < 9
      · have e1 := hw.keeps (D1.out k hlt)
        have e2 := hw.keeps (D2.out k hlt)
        have e3 := HM.out k
        generalize (all a b c d).getD k 0 = u1 at e1 e3
        generalize (all a b c m).getD k 0 = u2 at e2 e3
        have e4 : decide (u2 < u1) = false := by simp; omega
        go_wp2_with fail
        go_quiet (fail)
        go_wp2_with fail
        go_roundw
        case rel => exact ⟨k + 1, by omega, by go_num, (by repeat (first | assumption | exact Ext.refl _ | (refine Ext.trans ?_ (by assumption)) | apply Ext.alloc | apply Ext.drew | apply Ext.drewN))⟩
        case measure => simp [intOf]; omega
      · go_wp2_with ((go_at_call 7; refine (awake_any _).mono ?_; rintro e w1 ⟨rfl, x1⟩))
        go_ret
        exact ⟨rfl, (by repeat (first | assumption | exact Ext.refl _ | (refine Ext.trans ?_ (by assumption)) | apply Ext.alloc | apply Ext.drew | apply Ext.drewN))⟩

theorem walk (a b c d p m : Int) (w : World) :
    Calls Try.prog 5 #[.agg #[.int .i64 a, .int .i64 b, .int .i64 c, .int .i64 d], .int .i64 p, .int .i64 m] w fun e w' => e = .returned (.bool true) ∧ Ext w w' := by
  by_cases h : p < 0 ∨ 3 < p
  · exact out a b c d p m w h
  · have : p = 0 ∨ p = 1 ∨ p = 2 ∨ p = 3 := by omega
    rcases this with rfl | rfl | rfl | rfl
    · exact at0 a b c d m w
    · exact at1 a b c d m w
    · exact at2 a b c d m w
    · exact at3 a b c d m w

set_option maxRecDepth 100000 in
theorem lifted (os : Os) (started : os.Started) (H : Type) (enc : TypeId × Value → H) :
    ReturnsInHanded {} Try.checked os 5 .any (Rows.costRisesSpec.pre6 enc Try.prog Try.f5 Rows.costRisesRow.domain false) (Rows.costRisesSpec.post enc Try.prog Try.f5 false true false false) := by
  refine returnsInHanded_of_change (C := Try.checked) own started (by kernel_rfl) Try.func5
    (ChangeSpec.witness6 (enc := enc) (C := Try.checked) false ⟨#[], #[.agg #[.int .i64 0, .int .i64 0, .int .i64 0, .int .i64 0], .int .i64 0, .int .i64 0], []⟩ 8 (by kernel_rfl) (by kernel_rfl) (by kernel_rfl) (by kernel_rfl)) ?_
  intro W base args ds gs before hval0 hW hcnd _
  have hval : ∀ (j : Nat) t v, Try.f5.params[j]? = some t → args[j]? = some v → Value.okWide Try.prog W .any base t v := hval0
  have hW' := hW
  obtain ⟨p, q, hA0, hV, rfl, hfz, hnd⟩ := hW
  have hA : DataW.TrodAll enc Try.prog W 0 (fun _ => true) true Try.f5.params.toList args.toList ds p := hA0
  rw [Try.params5] at hA hval
  obtain ⟨v0, v1, v2, d0, d1, d2, p0, p1, p2, rfl, rfl, rfl, h0, h1, h2⟩ := trodAll_three hA
  obtain ⟨rfl, rfl⟩ := trodVars_none hV
  obtain ⟨a, b, c, d, rfl, _⟩ := open_arr4 Try.underlying25 Try.underlying3 (by kernel_rfl) (by kernel_rfl) (hval 0 25 v0 rfl rfl) h0
  obtain ⟨n, rfl, rfl, rfl, w1⟩ := open_int Try.underlying3 (hval 1 3 v1 rfl rfl) h1
  obtain ⟨m, rfl, rfl, rfl, w2⟩ := open_int Try.underlying3 (hval 2 3 v2 rfl rfl) h2
  refine (walk a b c d n m W).mono fun e W' ⟨he, hg⟩ => ?_
  subst he
  exact ⟨_, rfl, law_post (by kernel_rfl) (by kernel_rfl) (tb := 4) (by kernel_rfl) Try.underlying4 rfl (fun l hl => match l, hl with | [_, _, _], _ => ⟨rfl, rfl, rfl⟩) hW' hg⟩

theorem over : Rows.costRisesRow.holds Try.pinned (OpenSpec.ofChange Rows.costRisesSpec) :=
  OpenClaim.holds_of_wide 5 Try.f5 rfl rfl rfl rfl rfl rfl rfl ⟨rfl, rfl, rfl, rfl, rfl⟩ rfl rfl rfl rfl rfl (by kernel_rfl) Try.func5 (by kernel_rfl)
    (of_decide_eq_true (by kernel_rfl)) (by unfold Func.isWrapper; first | (rw [if_pos (by decide +kernel)]; kernel_rfl) | (rw [if_neg (by decide +kernel)]; exact ⟨rfl, rfl⟩))
    (fun os started H enc _ => lifted os started H enc)

/-- The statement. -/
theorem proved : Rows.CostRisesSaid := over
#print axioms proved
end Go.Proofs.Ytkoemlkjaanndaa.costRises
