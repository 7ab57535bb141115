/- Part 17 of the proof: Sref33 Sref33b Sref33c Lgrpl Lgrpb Svnum Sdeqp Sr03l Lclone Lstabd Lstx0 Lstx1. -/
import Derived.Sort.Defs
import Derived.Sort.Statements
import Derived.Shelf.SlSortCmp.Kit1
import Derived.WalkKit
import Derived.Lib.QuietBelow
import Derived.Deep.LoopGhost
import Derived.Sort.WalkB2
import Derived.Sort.WalkB12
import Derived.Test.YtfdnnfbbjiglcaaDoorGtu16
namespace Go.Proofs.YtfdnnfbbjiglcaaDoor.B
open Go Go.RowKit
set_option maxRecDepth 100000
noncomputable section
attribute [local irreducible] awp ctxK itersK iterK retQ retGQ awf ctxF loopF
def M_r33_Lists : Mc Un := mach (tbl []) (tbl []) (tbl []) (tbl []) (tbl [])
def A_r33_Lists (r : Bool) : List (A Un) := [.c (.s (.bool r))]
def O_r33_Lists (_r : Bool) : List (Ob Un) := []
def R_r33_Lists (r : Bool) : RF Un := (A_r33_Lists r, O_r33_Lists r)
def N_r33_Lists : Nat → NS := fun l => (look l [(2, { ts := bl 59 51, bs := bl 59 0, nm := [], cs := true }), (7, { ts := bl 59 115, bs := bl 59 0, nm := [], cs := true })]).getD ⟨[], [], [], [], [], true⟩
def r33_Lists_s2 (a : List (List Int)) (b : List (List Int)) (v0 : Int) : S Un := (st 59 59 236 0 [(0, al .ints a), (1, al .ints b), (4, ab false), (5, ai v0)] [] [])
def r33_Lists_s7 (a : List (List Int)) (b : List (List Int)) (v0 : Int) (v1 : Int) : S Un := (st 59 59 236 0 [(0, al .ints a), (1, al .ints b), (4, ab false), (5, ai v0), (6, ai v1)] [] [])
noncomputable def r33_Lists_B2 : Code := sub (bodyOf Tryd.f7) [1, 0, 1, 2, 2]
def r33_Lists_L2 : S Un → Option (EX Un) := loopF (N_r33_Lists 2) (fun s Q => awf M_r33_Lists N_r33_Lists r33_Lists_B2 s Q)
noncomputable def r33_Lists_B7 : Code := sub (sub (bodyOf Tryd.f7) [1, 0, 1, 2, 2]) [1, 0, 2, 1, 1, 2, 2]
def r33_Lists_L7 : S Un → Option (EX Un) := loopF (N_r33_Lists 7) (fun s Q => awf M_r33_Lists N_r33_Lists r33_Lists_B7 s Q)
def r33_Lists_C2 : Exit → S Un → Option (RF Un) := ctxF M_r33_Lists N_r33_Lists (bodyOf Tryd.f7) [1, 0, 1, 2] (retF M_r33_Lists Tryd.f7.results.toList [.d])
def r33_Lists_C7 : Exit → S Un → Option (EX Un) := ctxF M_r33_Lists N_r33_Lists r33_Lists_B2 [1, 0, 2, 1, 1, 2] (roundF (N_r33_Lists 2) r33_Lists_L2)
def r33_Lists_fn (a : List (List Int)) (b : List (List Int)) : Option (RF Un) := awf M_r33_Lists N_r33_Lists (bodyOf Tryd.f7) (entry Tryd.f7.ntmps 0 [.d (.v (.dat (U := Un) Ty.ints a)), .d (.v (.dat (U := Un) Ty.ints b))]) (retF M_r33_Lists Tryd.f7.results.toList [.d])
theorem r33_Lists_in (a : List (List Int)) (b : List (List Int)) : r33_Lists_fn a b =
 (r33_Lists_L2 (r33_Lists_s2 a b (0 : Int))).bind (thenX r33_Lists_C2) := by kernel_rfl
theorem r33_Lists_l2 (a : List (List Int)) (b : List (List Int)) (v0 : Int) : r33_Lists_L2 (r33_Lists_s2 a b v0) =
 cndO (decide (v0 < (↑a.length : Int)))
  (cndO (decide (v0 < (↑b.length : Int)))
   (obO (0 ≤ v0 ∧ v0 < (↑a.length : Int))
    (obO (0 ≤ v0 ∧ v0 < (↑b.length : Int))
     (cndO ((↑(List.length (a.getD v0.toNat [])) : Int) != (↑(List.length (b.getD v0.toNat [])) : Int))
      (some (.ret, (r33_Lists_s2 a b v0)))
      ((r33_Lists_L7 (r33_Lists_s7 a b v0 (0 : Int))).bind (thenX r33_Lists_C7)))))
   (some (.exit 0, (r33_Lists_s2 a b v0))))
  (some (.exit 0, (r33_Lists_s2 a b v0))) := (loopF_eq (N_r33_Lists 2) r33_Lists_B2 _).trans (by kernel_rfl)
theorem r33_Lists_a2_ret (a : List (List Int)) (b : List (List Int)) (v0 : Int) : r33_Lists_C2 .ret (r33_Lists_s2 a b v0) =
 some (R_r33_Lists (false)) := by kernel_rfl
theorem r33_Lists_a2_x0 (a : List (List Int)) (b : List (List Int)) (v0 : Int) : r33_Lists_C2 (.exit 0) (r33_Lists_s2 a b v0) =
 some (R_r33_Lists ((↑a.length : Int) == (↑b.length : Int))) := by kernel_rfl
theorem r33_Lists_l7 (a : List (List Int)) (b : List (List Int)) (v0 : Int) (v1 : Int) : r33_Lists_L7 (r33_Lists_s7 a b v0 v1) =
 obO (0 ≤ v0 ∧ v0 < (↑a.length : Int))
  (cndO (decide (v1 < (↑(List.length (a.getD v0.toNat [])) : Int)))
   (obO (0 ≤ v0 ∧ v0 < (↑a.length : Int))
    (obO (0 ≤ v1 ∧ v1 < (↑(List.length (a.getD v0.toNat [])) : Int))
     (obO (0 ≤ v0 ∧ v0 < (↑b.length : Int))
      (obO (0 ≤ v1 ∧ v1 < (↑(List.length (b.getD v0.toNat [])) : Int))
       (cndO (List.getD (a.getD v0.toNat []) v1.toNat (0 : Int) != List.getD (b.getD v0.toNat []) v1.toNat (0 : Int))
        (some (.ret, (r33_Lists_s7 a b v0 v1)))
        (r33_Lists_L7 (r33_Lists_s7 a b v0 (IntKind.i64.wrap (v1 + 1)))))))))
   (some (.exit 2, (r33_Lists_s7 a b v0 v1)))) := (loopF_eq (N_r33_Lists 7) r33_Lists_B7 _).trans (by kernel_rfl)
theorem r33_Lists_a7_ret (a : List (List Int)) (b : List (List Int)) (v0 : Int) (v1 : Int) : r33_Lists_C7 .ret (r33_Lists_s7 a b v0 v1) =
 some (.ret, (r33_Lists_s2 a b v0)) := by kernel_rfl
theorem r33_Lists_a7_x2 (a : List (List Int)) (b : List (List Int)) (v0 : Int) (v1 : Int) : r33_Lists_C7 (.exit 2) (r33_Lists_s7 a b v0 v1) =
 r33_Lists_L2 (r33_Lists_s2 a b (IntKind.i64.wrap (v0 + 1))) := by kernel_rfl
def r33_Lists (a b : List (List Int)) : Bool := decide (a = b)
theorem r33_row (a b : List (List Int)) (i : Nat) (x y : List Int) (hia : i < a.length) (hib : i < b.length) (hx : a.getD i [] = x) (hy : b.getD i [] = y) (hl : x.length = y.length) (hm : x.length ≤ 9223372036854775807) : ∀ (rx ry : List Int) (j : Nat), x.drop j = rx → y.drop j = ry → j ≤ x.length →
    (r33_Lists_L7 (r33_Lists_s7 a b (i : Int) (j : Int))).bind (thenX r33_Lists_C7) = if rx = ry then r33_Lists_L2 (r33_Lists_s2 a b (IntKind.i64.wrap ((i : Int) + 1))) else some (.ret, r33_Lists_s2 a b (i : Int)) := by
  intro rx
  induction rx with
  | nil =>
    intro ry j e1 e2 hj
    have n1 : x.length ≤ j := List.drop_eq_nil_iff.1 e1
    have : ry = [] := by rw [← e2]; exact List.drop_eq_nil_of_le (by omega)
    subst this
    have hL : r33_Lists_L7 (r33_Lists_s7 a b (i : Int) (j : Int)) = some (.exit 2, r33_Lists_s7 a b (i : Int) (j : Int)) := by
      rw [r33_Lists_l7, Int.toNat_natCast, hx, obO_pos (by omega), cndO_eq, if_neg (by rw [decide_eq_true_eq]; omega)]
    rw [loop_end hL, r33_Lists_a7_x2, if_pos rfl]
  | cons p rx ih =>
    intro ry j e1 e2 hj
    obtain ⟨a1, a2, a3, _⟩ := drop_cons e1
    cases ry with
    | nil =>
      have : y.length ≤ j := List.drop_eq_nil_iff.1 e2
      omega
    | cons q ry =>
      obtain ⟨b1, b2, b3, _⟩ := drop_cons e2
      have a2' : x.getD j 0 = p := a2 _
      have b2' : y.getD j 0 = q := b2 _
      by_cases hpq : p = q
      · have hL : r33_Lists_L7 (r33_Lists_s7 a b (i : Int) (j : Int)) = r33_Lists_L7 (r33_Lists_s7 a b (i : Int) ((j + 1 : Nat) : Int)) := by
          rw [r33_Lists_l7]
          simp only [Int.toNat_natCast, hx, hy, a2', b2', cndO_eq, decide_eq_true_eq]
          rw [obO_pos (by omega), if_pos (by omega), obO_pos (by omega), obO_pos (by omega), obO_pos (by omega), obO_pos (by omega), if_neg (by simp [hpq]), wrap_id (by omega)]
          rfl
        rw [hL, ih ry (j + 1) a3 b3 (by omega)]
        by_cases hr : rx = ry
        · rw [if_pos hr, if_pos (by rw [hpq, hr])]
        · rw [if_neg hr, if_neg (fun e => hr (List.cons.inj e).2)]
      · have hL : r33_Lists_L7 (r33_Lists_s7 a b (i : Int) (j : Int)) = some (.ret, r33_Lists_s7 a b (i : Int) (j : Int)) := by
          rw [r33_Lists_l7]
          simp only [Int.toNat_natCast, hx, hy, a2', b2', cndO_eq, decide_eq_true_eq]
          rw [obO_pos (by omega), if_pos (by omega), obO_pos (by omega), obO_pos (by omega), obO_pos (by omega), obO_pos (by omega), if_pos (by simpa using hpq)]
        rw [loop_end hL, r33_Lists_a7_ret, if_neg (fun e => hpq (List.cons.inj e).1)]
theorem r33_Lists_spec (a b : List (List Int)) (ha : WL .ints a) (hb : WL .ints b) : r33_Lists_fn a b = some (R_r33_Lists (r33_Lists a b)) := by
  have la := ha.len
  have key : ∀ (ra rb : List (List Int)) (i : Nat), a.drop i = ra → b.drop i = rb → i ≤ a.length → i ≤ b.length →
      (r33_Lists_L2 (r33_Lists_s2 a b (i : Int))).bind (thenX r33_Lists_C2) = some (R_r33_Lists (decide (ra = rb))) := by
    intro ra
    induction ra with
    | nil =>
      intro rb i e1 e2 i1 i2
      have n1 : a.length ≤ i := List.drop_eq_nil_iff.1 e1
      have hL : r33_Lists_L2 (r33_Lists_s2 a b (i : Int)) = some (.exit 0, r33_Lists_s2 a b (i : Int)) := by
        rw [r33_Lists_l2, cndO_eq, if_neg (by rw [decide_eq_true_eq]; omega)]
      rw [loop_end hL, r33_Lists_a2_x0]
      congr 2
      rw [Bool.eq_iff_iff, beq_iff_eq, decide_eq_true_eq]
      have := drop_len e2
      cases rb with
      | nil => simp at this; constructor <;> intro _ <;> first | rfl | omega
      | cons y rb => simp at this; constructor <;> intro h <;> first | omega | simp at h
    | cons x ra ih =>
      intro rb i e1 e2 i1 i2
      obtain ⟨a1, a2, a3, _⟩ := drop_cons e1
      have a2' : a.getD i [] = x := a2 _
      cases rb with
      | nil =>
        have n2 : b.length ≤ i := List.drop_eq_nil_iff.1 e2
        have hL : r33_Lists_L2 (r33_Lists_s2 a b (i : Int)) = some (.exit 0, r33_Lists_s2 a b (i : Int)) := by
          rw [r33_Lists_l2, cndO_eq, if_pos (by rw [decide_eq_true_eq]; omega), cndO_eq, if_neg (by rw [decide_eq_true_eq]; omega)]
        rw [loop_end hL, r33_Lists_a2_x0]
        congr 2
        rw [Bool.eq_iff_iff, beq_iff_eq, decide_eq_true_eq]
        constructor <;> intro h <;> first | omega | simp at h
      | cons y rb =>
        obtain ⟨b1, b2, b3, _⟩ := drop_cons e2
        have b2' : b.getD i [] = y := b2 _
        have hxm : x ∈ a := by rw [← a2', List.getD_eq_getElem?_getD, List.getElem?_eq_getElem a1]; exact List.getElem_mem _
        have hxl : x.length ≤ 9223372036854775807 := (show WL .int x from (ha.get hxm) _ (by first | exact List.mem_singleton.2 rfl | simp [enc])).len
        have hL0 : r33_Lists_L2 (r33_Lists_s2 a b (i : Int)) = if x = y then r33_Lists_L2 (r33_Lists_s2 a b ((i + 1 : Nat) : Int)) else some (.ret, r33_Lists_s2 a b (i : Int)) := by
          rw [r33_Lists_l2]
          simp only [Int.toNat_natCast, a2', b2', cndO_eq, decide_eq_true_eq]
          rw [if_pos (by omega), if_pos (by omega), obO_pos (by omega), obO_pos (by omega)]
          by_cases hl : x.length = y.length
          · rw [if_neg (by simp [hl])]
            have := r33_row a b i x y a1 b1 a2' b2' hl hxl x y 0 rfl rfl (Nat.zero_le _)
            rw [wrap_id (by omega)] at this
            exact this
          · rw [if_pos (by simp; omega), if_neg (fun e => hl (by rw [e]))]
        by_cases hxy : x = y
        · rw [if_pos hxy] at hL0
          rw [hL0, ih rb (i + 1) a3 b3 (by omega) (by omega)]
          congr 2
          exact decide_eq_decide.2 ⟨fun e => by rw [hxy, e], fun e => (List.cons.inj e).2⟩
        · rw [if_neg hxy] at hL0
          rw [loop_end hL0, r33_Lists_a2_ret, decide_eq_false (fun e => hxy (List.cons.inj e).1)]
  rw [r33_Lists_in]
  exact key a b 0 rfl rfl (Nat.zero_le _) (Nat.zero_le _)
def F_r33_Lists : FnC Un := fun args => match args with
  | [x0, x1] => (dL .ints x0).bind fun a => (dL .ints x1).bind fun b => some ([], A_r33_Lists (r33_Lists a b), O_r33_Lists (r33_Lists a b))
  | _ => none
theorem ok_r33_Lists : FnOK 7 F_r33_Lists := by
  intro args ob rs os h hob
  unfold F_r33_Lists at h
  split at h
  · simp only [Option.bind_eq_some_iff, Option.some.injEq, Prod.mk.injEq] at h
    obtain ⟨a, e0, b, e1, rfl, rfl, rfl⟩ := h
    obtain rfl := dL_eq e0
    obtain rfl := dL_eq e1
    exact ⟨fn_contractF (M := M_r33_Lists) rfl (tbl_ok (l1 := []) (l2 := []) (l3 := []) (l4 := []) (l5 := []) trivial trivial trivial trivial trivial) Tryd.func7 (by kernel_rfl) N_r33_Lists 0 [.d] (fun hwf => (r33_Lists_spec a b (wfArg hwf (a := .d (.v (.dat (U := Un) Ty.ints a))) (List.mem_of_getElem? (i := 0) rfl)) (wfArg hwf (a := .d (.v (.dat (U := Un) Ty.ints b))) (List.mem_of_getElem? (i := 1) rfl)))), hasBody_of Tryd.func7 (by kernel_rfl) (by kernel_rfl)⟩
  · simp at h
end
end Go.Proofs.YtfdnnfbbjiglcaaDoor.B
namespace Go.Proofs.YtfdnnfbbjiglcaaDoor.B
open Go Go.RowKit
set_option maxRecDepth 100000
noncomputable section
attribute [local irreducible] awp ctxK itersK iterK retQ retGQ awf ctxF loopF
def rowsOK (l : List (List Val)) : Prop := l.length ≤ 2000000 ∧ ∀ x ∈ l, x.length ≤ 1000000000
theorem foldG_snoc {α β : Type} (f : α → β) : ∀ (l : List α) (s : List β), l.foldl (fun s x => s ++ [f x]) s = s ++ l.map f
  | [], s => by simp
  | x :: l, s => by rw [List.foldl_cons, foldG_snoc f l]; simp
theorem getD_headD (g : List Int) : g.getD 0 0 = g.headD 0 := by cases g <;> rfl
end
end Go.Proofs.YtfdnnfbbjiglcaaDoor.B
namespace Go.Proofs.YtfdnnfbbjiglcaaDoor.B
open Go Go.RowKit
set_option maxRecDepth 100000
noncomputable section
attribute [local irreducible] awp ctxK itersK iterK retQ retGQ awf ctxF loopF
def ltG (keys : List (List Val)) (g y : List Int) : Bool := decide (ordR (keyAt keys (y.headD 0)) (keyAt keys (g.headD 0)) < 0)
def insG (keys : List (List Val)) (out : List (List Int)) (g : List Int) : List (List Int) := (out.takeWhile (ltG keys g)) ++ g :: out.dropWhile (ltG keys g)
def r33_Sorted (keys : List (List Val)) : List (List Int) := (r33_Groups keys).foldl (insG keys) []
theorem grp_mem (keys : List (List Val)) {y : List Int} (h : y ∈ r33_Groups keys) : 0 < y.length ∧ y.length ≤ keys.length ∧ 0 ≤ y.headD 0 ∧ y.headD 0 < (keys.length : Int) := by
  have hG := gRun_ok (keyAt keys) keys.length
  obtain ⟨k, hk, rfl⟩ := List.mem_iff_getElem.1 h
  have e : (r33_Groups keys).getD k [] = (r33_Groups keys)[k] := by rw [List.getD_eq_getElem?_getD, List.getElem?_eq_getElem hk]; rfl
  have hne := hG.ne k hk
  have hl := GI.len _ hG k
  have hm := hG.mem k
  change (r33_Groups keys).getD k [] ≠ [] at hne
  change ((r33_Groups keys).getD k []).length ≤ _ at hl
  change ∀ p, p ∈ (r33_Groups keys).getD k [] → _ at hm
  rw [e] at hne hl hm
  have hhd : (r33_Groups keys)[k].headD 0 ∈ (r33_Groups keys)[k] := by
    cases hc : (r33_Groups keys)[k] with
    | nil => exact (hne hc).elim
    | cons a r => exact List.mem_cons_self
  obtain ⟨m1, m2, _⟩ := hm _ hhd
  exact ⟨List.length_pos_iff.2 hne, hl, m1, m2⟩
end
end Go.Proofs.YtfdnnfbbjiglcaaDoor.B
namespace Go.Proofs.YtfdnnfbbjiglcaaDoor.B
open Go Go.RowKit
set_option linter.unusedVariables false
noncomputable section
theorem perm_srt_eq {α : Type} {le : α → α → Bool} : ∀ {l r : List α}, l.Perm r → l.Pairwise (fun a b => le a b = true) → r.Pairwise (fun a b => le a b = true) → (∀ a b, a ∈ l → b ∈ l → le a b = true → le b a = true → a = b) → l = r
  | [], r, hp, _, _, _ => (List.nil_perm.1 hp).symm
  | a :: l, [], hp, _, _, _ => by have := hp.length_eq; simp at this
  | a :: l, b :: r, hp, h1, h2, h3 => by
    obtain ⟨a1, a2⟩ := List.pairwise_cons.1 h1
    obtain ⟨b1, b2⟩ := List.pairwise_cons.1 h2
    have e : a = b := by
      have ha : a ∈ b :: r := hp.subset List.mem_cons_self
      have hb : b ∈ a :: l := hp.symm.subset List.mem_cons_self
      rcases List.mem_cons.1 ha with e | ha
      · exact e
      · rcases List.mem_cons.1 hb with e | hb
        · exact e.symm
        · exact h3 a b List.mem_cons_self (List.mem_cons_of_mem _ hb) (a1 b hb) (b1 a ha)
    subst e
    rw [perm_srt_eq (List.perm_cons a |>.1 hp) a2 b2 fun x y hx hy => h3 x y (List.mem_cons_of_mem _ hx) (List.mem_cons_of_mem _ hy)]
theorem leG_iff {keys : List (List Val)} {a b : List Int} : leG keys a b = true ↔ ¬ ordR (hkG keys b) (hkG keys a) < 0 := by unfold leG; simp
theorem leG_trans (keys : List (List Val)) (a b c : List Int) (h1 : leG keys a b = true) (h2 : leG keys b c = true) : leG keys a c = true := by
  rw [leG_iff] at *
  have := ordR_swo.ntrans (hkG keys c) (hkG keys b) (hkG keys a) (by simpa using h2) (by simpa using h1)
  simpa using this
theorem leG_total (keys : List (List Val)) (a b : List Int) : leG keys a b = true ∨ leG keys b a = true := by
  rw [leG_iff, leG_iff]
  have := ordR_anti (hkG keys a) (hkG keys b)
  omega
theorem leG_anti (keys : List (List Val)) {a b : List Int} (ha : a ∈ r33_Groups keys) (hb : b ∈ r33_Groups keys) (h1 : leG keys a b = true) (h2 : leG keys b a = true) : a = b := by
  rw [leG_iff] at *
  have h := ordR_anti (hkG keys a) (hkG keys b)
  have e : hkG keys a = hkG keys b := ordR_zero.1 (by omega)
  obtain ⟨j, hj, rfl⟩ := List.mem_iff_getElem.1 ha
  obtain ⟨k, hk, rfl⟩ := List.mem_iff_getElem.1 hb
  have hG := gRun_ok (keyAt keys) keys.length
  have g1 : (r33_Groups keys).getD j [] = (r33_Groups keys)[j] := by rw [List.getD_eq_getElem?_getD, List.getElem?_eq_getElem hj]; rfl
  have g2 : (r33_Groups keys).getD k [] = (r33_Groups keys)[k] := by rw [List.getD_eq_getElem?_getD, List.getElem?_eq_getElem hk]; rfl
  have := hG.dis j k hj hk (by
    show keyAt keys (((r33_Groups keys).getD j []).headD 0) = keyAt keys (((r33_Groups keys).getD k []).headD 0)
    rw [g1, g2]; exact e)
  subst this; rfl
theorem ltG_le {keys : List (List Val)} {g y : List Int} (h : ltG keys g y = true) : leG keys y g = true := by
  unfold ltG at h
  rw [decide_eq_true_eq] at h
  rw [leG_iff]
  have := ordR_anti (hkG keys y) (hkG keys g)
  have h' : ordR (hkG keys y) (hkG keys g) < 0 := h
  omega
theorem insG_perm (keys : List (List Val)) (out : List (List Int)) (g : List Int) : (insG keys out g).Perm (g :: out) := by
  have e : (out.takeWhile (ltG keys g)) ++ (out.dropWhile (ltG keys g)) = out := List.takeWhile_append_dropWhile
  unfold insG
  refine List.perm_middle.trans ?_
  rw [e]
theorem insG_srt (keys : List (List Val)) (g : List Int) {out : List (List Int)} (hs : out.Pairwise fun a b => leG keys a b = true) : (insG keys out g).Pairwise fun a b => leG keys a b = true := by
  have e : (out.takeWhile (ltG keys g)) ++ (out.dropWhile (ltG keys g)) = out := List.takeWhile_append_dropWhile
  have hs' := hs
  rw [← e] at hs'
  obtain ⟨t1, t2, t3⟩ := List.pairwise_append.1 hs'
  have hd : ∀ y ∈ out.dropWhile (ltG keys g), leG keys g y = true := by
    intro y hy
    cases hc : out.dropWhile (ltG keys g) with
    | nil => rw [hc] at hy; simp at hy
    | cons z r =>
      have hz : ltG keys g z = false := by
        have := List.head?_dropWhile_not (ltG keys g) out
        rw [hc] at this
        simpa using this
      have hgz : leG keys g z = true := by
        rw [leG_iff]
        unfold ltG at hz
        exact of_decide_eq_false hz
      rw [hc] at hy t2
      rcases List.mem_cons.1 hy with rfl | hy
      · exact hgz
      · exact leG_trans keys g z y hgz ((List.pairwise_cons.1 t2).1 y hy)
  unfold insG
  refine List.pairwise_append.2 ⟨t1, List.pairwise_cons.2 ⟨hd, t2⟩, fun a ha b hb => ?_⟩
  have hag : leG keys a g = true := by
    have := List.all_takeWhile (p := ltG keys g) (l := out)
    exact ltG_le (List.all_eq_true.1 this a ha)
  rcases List.mem_cons.1 hb with rfl | hb
  · exact hag
  · exact t3 a ha b hb
theorem ins_all (keys : List (List Val)) : ∀ (l out : List (List Int)), (out.Pairwise fun a b => leG keys a b = true) → ((l.foldl (insG keys) out).Pairwise fun a b => leG keys a b = true) ∧ (l.foldl (insG keys) out).Perm (l ++ out)
  | [], out, h => ⟨h, List.Perm.refl _⟩
  | g :: l, out, h => by
    obtain ⟨h1, h2⟩ := ins_all keys l (insG keys out g) (insG_srt keys g h)
    refine ⟨h1, h2.trans ?_⟩
    refine ((insG_perm keys out g).append_left l).trans ?_
    exact List.perm_middle
theorem g_Sorted_srt (keys : List (List Val)) : (g_Sorted keys).Pairwise fun a b => leG keys a b = true := by
  unfold g_Sorted
  exact List.pairwise_mergeSort (fun a b c h1 h2 => leG_trans keys a b c h1 h2) (fun a b => by rcases leG_total keys a b with h | h <;> simp [h]) _
theorem g_Sorted_perm (keys : List (List Val)) : (g_Sorted keys).Perm (r33_Groups keys) := List.mergeSort_perm _ _
theorem g_Sorted_eq (keys : List (List Val)) : g_Sorted keys = r33_Sorted keys := by
  obtain ⟨h1, h2⟩ := ins_all keys (r33_Groups keys) [] List.Pairwise.nil
  rw [List.append_nil] at h2
  refine perm_srt_eq ((g_Sorted_perm keys).trans h2.symm) (g_Sorted_srt keys) h1 fun a b ha hb => ?_
  exact leG_anti keys ((g_Sorted_perm keys).subset ha) ((g_Sorted_perm keys).subset hb)
theorem valT_len {v : Val} (h : WS .val v) : (valT v).length ≤ 66 + v.s.size := by
  obtain ⟨h1, h2, h3⟩ := (WS_val v).1 h
  have e1 := Lib.itoa_length_le v.kind (by have := h1; unfold WI at this; omega) (by have := h1; unfold WI at this; omega)
  have e2 := Lib.itoa_length_le v.n (by have := h2; unfold WI at this; omega) (by have := h2; unfold WI at this; omega)
  have e3 := Lib.itoa_length_le (v.s.size : Int) (by omega) (by have := h3; unfold WStr at this; omega)
  have e4 : v.s.data.toList.length = v.s.size := rfl
  unfold valT
  simp only [List.length_append, List.length_cons]
  omega
def exK : List (List Val) := [[⟨2, 5, ⟨#[]⟩⟩], [zeroVal], [⟨2, 5, ⟨#[]⟩⟩], [zeroVal], [⟨2, 1, ⟨#[]⟩⟩]]
theorem exK_ok : keysOK exK := by
  have h0 : WS .val (⟨2, 5, ⟨#[]⟩⟩ : Val) := (WS_val _).2 ⟨by unfold WI; decide, by unfold WI; decide, by unfold WStr; decide⟩
  have h1 : WS .val (⟨2, 1, ⟨#[]⟩⟩ : Val) := (WS_val _).2 ⟨by unfold WI; decide, by unfold WI; decide, by unfold WStr; decide⟩
  have h2 : WS .val zeroVal := (WS_val _).2 ⟨by unfold WI; decide, by unfold WI; decide, by unfold WStr; decide⟩
  have key : ∀ v, WS .val v → v.s.size = 0 → [v].length ≤ 1000000000 ∧ (keyT [v]).length ≤ 1000000000000 := fun v h hs => by
    have := valT_len h
    refine ⟨by simp, ?_⟩
    rw [keyT, keyT, List.append_nil]; omega
  intro r hr
  simp only [exK, List.mem_cons, List.not_mem_nil, or_false] at hr
  rcases hr with rfl | rfl | rfl | rfl | rfl
  · exact key _ h0 rfl
  · exact key _ h2 rfl
  · exact key _ h0 rfl
  · exact key _ h2 rfl
  · exact key _ h1 rfl
theorem exGroups : r33_Groups exK = [[0, 2], [1, 3], [4]] := by
  have k0 : keyAt exK 0 = [⟨2, 5, ⟨#[]⟩⟩] := rfl
  have k1 : keyAt exK 1 = [zeroVal] := rfl
  have k2 : keyAt exK 2 = [⟨2, 5, ⟨#[]⟩⟩] := rfl
  have k3 : keyAt exK 3 = [zeroVal] := rfl
  have k4 : keyAt exK 4 = [⟨2, 1, ⟨#[]⟩⟩] := rfl
  have hl : exK.length = 5 := rfl
  unfold r33_Groups gRun
  rw [hl]
  simp [List.range_succ, gStep, gAdd, gAt, List.findIdx_cons, k0, k1, k2, k3, k4, zeroVal]
theorem exSorted : r33_Sorted exK = [[1, 3], [4], [0, 2]] := by
  unfold r33_Sorted
  rw [exGroups]
  have k0 : keyAt exK 0 = [⟨2, 5, ⟨#[]⟩⟩] := rfl
  have k1 : keyAt exK 1 = [⟨0, 0, ⟨#[]⟩⟩] := rfl
  have k4 : keyAt exK 4 = [⟨2, 1, ⟨#[]⟩⟩] := rfl
  simp [insG, ltG, k0, k1, k4, ordR, ordV, cmpI, cmpS, cmpL]
end
end Go.Proofs.YtfdnnfbbjiglcaaDoor.B
namespace Go.Proofs.YtfdnnfbbjiglcaaDoor.B
open Go Go.RowKit
set_option linter.unusedVariables false
theorem BK.strI {s : ByteArray} {n : Nat} (h : BK (cs s) n) : s.size ≤ n := by
  cases h with
  | s _ _ h => exact h s rfl
theorem BKS.consI {v : V Un} {vs : List (V Un)} {n : Nat} (h : BKS (v :: vs) n) : ∃ a b, BK v a ∧ BKS vs b ∧ a + b ≤ n := by
  cases h with
  | cons _ _ a b _ h1 h2 hn => exact ⟨a, b, h1, h2, hn⟩
theorem BKL.consI {τ : Ty} {x : Den τ} {xs : List (Den τ)} {n : Nat} (h : BKL τ (x :: xs) n) : ∃ a b, BKS (enc τ x) a ∧ BKL τ xs b ∧ a + 1 + b ≤ n := by
  cases h with
  | cons _ _ _ a b _ h1 h2 hn => exact ⟨a, b, h1, h2, hn⟩
theorem BK.datI {τ : Ty} {xs : List (Den τ)} {n : Nat} (h : BK (.dat (U := Un) τ xs) n) : BKL τ xs n := by
  cases h with
  | dat _ _ _ h => exact h
theorem bkKey : ∀ (r : List Val) (n : Nat), BKL .val r n → WL .val r → r.length ≤ n ∧ (keyT r).length ≤ 70 * n
  | [], n, _, _ => ⟨Nat.zero_le _, by simp [keyT]⟩
  | x :: r, n, h, hw => by
    obtain ⟨a, b, h1, h2, hn⟩ := h.consI
    obtain ⟨i1, i2⟩ := bkKey r b h2 (hw.sub (by simp) fun y hy => List.mem_cons_of_mem _ hy)
    have hv := valT_len (hw.get List.mem_cons_self)
    obtain ⟨_, _, _, h1, q2⟩ := h1.consI
    obtain ⟨_, _, _, h1, q3⟩ := h1.consI
    obtain ⟨_, _, k0, _, q4⟩ := h1.consI
    have e0 : x.s.size ≤ _ := k0.strI
    refine ⟨by rw [List.length_cons]; omega, ?_⟩
    rw [keyT, List.length_append]
    omega
theorem bkKeys : ∀ (l : List (List Val)) (n : Nat), BKL .row l n → WL .row l → n ≤ 2000000 → l.length ≤ n ∧ ∀ r ∈ l, r.length ≤ 2000000 ∧ (keyT r).length ≤ 140000000
  | [], n, _, _, _ => ⟨Nat.zero_le _, by simp⟩
  | x :: l, n, h, hw, hm => by
    obtain ⟨a, b, h1, h2, hn⟩ := h.consI
    obtain ⟨i1, i2⟩ := bkKeys l b h2 (hw.sub (by simp) fun y hy => List.mem_cons_of_mem _ hy) (by omega)
    obtain ⟨_, _, k0, _, q2⟩ := h1.consI
    obtain ⟨j1, j2⟩ := bkKey x _ k0.datI ((WS_row x).1 (hw.get List.mem_cons_self))
    refine ⟨by rw [List.length_cons]; omega, fun r hr => ?_⟩
    rcases List.mem_cons.1 hr with rfl | hr
    · exact ⟨by omega, by omega⟩
    · exact i2 r hr
end Go.Proofs.YtfdnnfbbjiglcaaDoor.B
namespace Go.Proofs.YtfdnnfbbjiglcaaDoor.B
open Go Go.RowKit
set_option maxRecDepth 100000
noncomputable section
attribute [local irreducible] awp ctxK itersK iterK retQ retGQ awf ctxF loopF
def M_value_Num : Mc Un := mach (tbl []) (tbl []) (tbl []) (tbl []) (tbl [])
def A_value_Num (r : Val) : List (A Un) := [.agg (encC Ty.val r)]
def O_value_Num (_r : Val) : List (Ob Un) := []
def R_value_Num (r : Val) : RF Un := (A_value_Num r, O_value_Num r)
def N_value_Num : Nat → NS := fun l => (look l []).getD ⟨[], [], [], [], [], false⟩
def value_Num_fn (n : Int) : Option (RF Un) := awf M_value_Num N_value_Num (bodyOf Tryd.f17) (entry Tryd.f17.ntmps 0 [.d (.v (.s (.int .i64 n)))]) (retF M_value_Num Tryd.f17.results.toList [.d])
theorem value_Num_in (n : Int) : value_Num_fn n =
 some (R_value_Num ({ kind := (2 : Int), n := n, s := (ByteArray.mk #[]) })) := by kernel_rfl
def value_Num (n : Int) : Val :=
  ({ kind := (2 : Int), n := n, s := (ByteArray.mk #[]) })
theorem value_Num_eq (n : Int) : value_Num_fn n = some (R_value_Num (value_Num n)) := by rw [value_Num_in]; unfold value_Num; simp only [cndO_eq]; repeat (first | rfl | split)
def F_value_Num : FnC Un := fun args => match args with
  | [x0] => (dI .i64 x0).bind fun n => some ([], A_value_Num (value_Num n), O_value_Num (value_Num n))
  | _ => none
theorem ok_value_Num : FnOK 17 F_value_Num := by
  intro args ob rs os h hob
  unfold F_value_Num at h
  split at h
  · simp only [Option.bind_eq_some_iff, Option.some.injEq, Prod.mk.injEq] at h
    obtain ⟨n, e0, rfl, rfl, rfl⟩ := h
    obtain rfl := dI_eq e0
    exact ⟨fn_contractF (M := M_value_Num) rfl (tbl_ok (l1 := []) (l2 := []) (l3 := []) (l4 := []) (l5 := []) trivial trivial trivial trivial trivial) Tryd.func17 (by kernel_rfl) N_value_Num 0 [.d] (fun hwf => (value_Num_eq n)), hasBody_of Tryd.func17 (by kernel_rfl) (by kernel_rfl)⟩
  · simp at h
end
end Go.Proofs.YtfdnnfbbjiglcaaDoor.B
namespace Go.Proofs.YtfdnnfbbjiglcaaDoor.B
open Go Go.RowKit
set_option maxRecDepth 100000
noncomputable section
attribute [local irreducible] awp ctxK itersK iterK retQ retGQ awf ctxF loopF
noncomputable def deq {α : Type} (a b : α) : Bool := @decide (a = b) (Classical.propDecidable _)
theorem deq_iff {α : Type} {a b : α} : deq a b = true ↔ a = b := by unfold deq; exact @decide_eq_true_iff _ (Classical.propDecidable _)
theorem deq_of {α : Type} {a b : α} {x : Bool} (h : x = true ↔ a = b) : x = deq a b := by
  rw [Bool.eq_iff_iff, h, deq_iff]
theorem loop_pre {α β : Type} {L : S Un → Option (EX Un)} {st : Int → S Un} {C : Exit → S Un → Option β} (R : Bool → Option β) {a b : List α} {d : α} {e : Exit} (hl : a.length ≤ 9223372036854775807)
    (step : ∀ i : Nat, i < a.length → i < b.length → L (st i) = if deq (a.getD i d) (b.getD i d) = true then L (st (IntKind.i64.wrap ((i : Int) + 1))) else some (.ret, st i))
    (stop : ∀ i : Nat, ¬ (i < a.length ∧ i < b.length) → L (st i) = some (e, st i)) (cr : ∀ i : Nat, C .ret (st i) = R false) (ce : ∀ i : Nat, C e (st i) = R ((a.length : Int) == (b.length : Int))) : (L (st (0 : Int))).bind (thenX C) = R (deq a b) := by
  have key : ∀ (k i : Nat), i + k = a.length → i ≤ b.length → (L (st i)).bind (thenX C) = R (deq (a.drop i) (b.drop i)) := by
    intro k
    induction k with
    | zero =>
      intro i hi hb
      obtain rfl : i = a.length := by omega
      rw [loop_end (stop _ (by omega)), ce]
      congr 1
      refine deq_of ?_
      rw [List.drop_length, beq_iff_eq]
      constructor
      · intro h; rw [List.drop_eq_nil_of_le (by omega)]
      · intro h
        have := congrArg List.length h
        rw [List.length_drop, List.length_nil] at this; omega
    | succ k ih =>
      intro i hi hb
      have h1 : i < a.length := by omega
      by_cases h2 : i < b.length
      · have ga : a.getD i d = a[i] := by rw [List.getD_eq_getElem?_getD, List.getElem?_eq_getElem h1]; rfl
        have gb : b.getD i d = b[i] := by rw [List.getD_eq_getElem?_getD, List.getElem?_eq_getElem h2]; rfl
        have hs := step i h1 h2
        rw [ga, gb] at hs
        rw [List.drop_eq_getElem_cons h1, List.drop_eq_getElem_cons h2]
        by_cases hq : deq a[i] b[i] = true
        · rw [if_pos hq, wrap_next h1 hl] at hs
          rw [hs, ih (i + 1) (by omega) (by omega)]
          rw [deq_iff] at hq
          congr 1
          refine deq_of ?_
          rw [deq_iff, hq]
          exact ⟨fun h => by rw [h], fun h => (List.cons.inj h).2⟩
        · rw [if_neg hq] at hs
          rw [loop_end hs, cr]
          congr 1
          refine deq_of ?_
          rw [deq_iff] at hq
          exact ⟨fun h => absurd h (by decide), fun h => absurd (List.cons.inj h).1 hq⟩
      · rw [loop_end (stop _ (by omega)), ce]
        congr 1
        refine deq_of ?_
        rw [beq_iff_eq]
        constructor
        · intro h; omega
        · intro h
          have := congrArg List.length h
          rw [List.length_drop, List.length_drop] at this; omega
  exact key a.length 0 (by omega) (by omega)
theorem ord_deq (x y : List Val) : (r03_Orders x y != 0) = !deq x y := by
  rw [Bool.eq_iff_iff, bne_iff_ne, Bool.not_eq_true', ← Bool.not_eq_true, deq_iff, r03_Orders_eq, ne_eq, ordR_zero]
end
end Go.Proofs.YtfdnnfbbjiglcaaDoor.B
namespace Go.Proofs.YtfdnnfbbjiglcaaDoor.B
open Go Go.RowKit
set_option maxRecDepth 100000
noncomputable section
attribute [local irreducible] awp ctxK itersK iterK retQ retGQ awf ctxF loopF
def M_r03_List : Mc Un := mach (tbl [(19, F_r03_Orders)]) (tbl []) (tbl []) (tbl []) (tbl [])
def A_r03_List (r : Bool) : List (A Un) := [.c (.s (.bool r))]
def O_r03_List (_r : Bool) : List (Ob Un) := []
def R_r03_List (r : Bool) : RF Un := (A_r03_List r, O_r03_List r)
def N_r03_List : Nat → NS := fun l => (look l [(2, { ts := bl 33 51, bs := bl 33 0, nm := [], cs := true })]).getD ⟨[], [], [], [], [], true⟩
def r03_List_s2 (a : List (List Val)) (b : List (List Val)) (v0 : Int) : S Un := (st 33 33 132 0 [(0, al .row a), (1, al .row b), (4, ab false), (5, ai v0)] [] [])
noncomputable def r03_List_B2 : Code := sub (bodyOf Tryd.f12) [1, 0, 1, 2, 2]
def r03_List_L2 : S Un → Option (EX Un) := loopF (N_r03_List 2) (fun s Q => awf M_r03_List N_r03_List r03_List_B2 s Q)
def r03_List_C2 : Exit → S Un → Option (RF Un) := ctxF M_r03_List N_r03_List (bodyOf Tryd.f12) [1, 0, 1, 2] (retF M_r03_List Tryd.f12.results.toList [.d])
def r03_List_fn (a : List (List Val)) (b : List (List Val)) : Option (RF Un) := awf M_r03_List N_r03_List (bodyOf Tryd.f12) (entry Tryd.f12.ntmps 0 [.d (.v (.dat (U := Un) Ty.row a)), .d (.v (.dat (U := Un) Ty.row b))]) (retF M_r03_List Tryd.f12.results.toList [.d])
theorem r03_List_in (a : List (List Val)) (b : List (List Val)) : r03_List_fn a b =
 (r03_List_L2 (r03_List_s2 a b (0 : Int))).bind (thenX r03_List_C2) := by kernel_rfl
theorem r03_List_l2 (a : List (List Val)) (b : List (List Val)) (v0 : Int) : r03_List_L2 (r03_List_s2 a b v0) =
 cndO (decide (v0 < (↑a.length : Int)))
  (cndO (decide (v0 < (↑b.length : Int)))
   (obO (0 ≤ v0 ∧ v0 < (↑a.length : Int))
    (obO (0 ≤ v0 ∧ v0 < (↑b.length : Int))
     (cndO (r03_Orders (a.getD v0.toNat []) (b.getD v0.toNat []) != 0)
      (some (.ret, (r03_List_s2 a b v0)))
      (r03_List_L2 (r03_List_s2 a b (IntKind.i64.wrap (v0 + 1)))))))
   (some (.exit 0, (r03_List_s2 a b v0))))
  (some (.exit 0, (r03_List_s2 a b v0))) := (loopF_eq (N_r03_List 2) r03_List_B2 _).trans (by kernel_rfl)
theorem r03_List_a2_ret (a : List (List Val)) (b : List (List Val)) (v0 : Int) : r03_List_C2 .ret (r03_List_s2 a b v0) =
 some (R_r03_List (false)) := by kernel_rfl
theorem r03_List_a2_x0 (a : List (List Val)) (b : List (List Val)) (v0 : Int) : r03_List_C2 (.exit 0) (r03_List_s2 a b v0) =
 some (R_r03_List ((↑a.length : Int) == (↑b.length : Int))) := by kernel_rfl
noncomputable def r03_List (a b : List (List Val)) : Bool := deq a b
theorem r03_List_spec (a b : List (List Val)) (ha : WL .row a) (_hb : WL .row b) : r03_List_fn a b = some (R_r03_List (r03_List a b)) := by
  rw [r03_List_in]
  exact loop_pre (L := r03_List_L2) (st := fun i => r03_List_s2 a b i) (fun r => some (R_r03_List r)) (d := []) ha.len
    (fun i hi hj => by
      rw [r03_List_l2, ord_deq]
      simp only [cndO_eq, Int.toNat_natCast]
      rw [if_pos (by simp; omega), if_pos (by simp; omega), obO_pos (by omega), obO_pos (by omega)]
      cases deq (a.getD i []) (b.getD i []) <;> simp)
    (fun i h => by
      rw [r03_List_l2]
      simp only [cndO_eq, decide_eq_true_eq]
      by_cases h1 : (i : Int) < (a.length : Int)
      · rw [if_pos h1, if_neg (by omega)]
      · rw [if_neg h1])
    (fun i => r03_List_a2_ret _ _ _) (fun i => r03_List_a2_x0 _ _ _)
def F_r03_List : FnC Un := fun args => match args with
  | [x0, x1] => (dL .row x0).bind fun a => (dL .row x1).bind fun b => some ([], A_r03_List (r03_List a b), O_r03_List (r03_List a b))
  | _ => none
theorem ok_r03_List : FnOK 12 F_r03_List := by
  intro args ob rs os h hob
  unfold F_r03_List at h
  split at h
  · simp only [Option.bind_eq_some_iff, Option.some.injEq, Prod.mk.injEq] at h
    obtain ⟨a, e0, b, e1, rfl, rfl, rfl⟩ := h
    obtain rfl := dL_eq e0
    obtain rfl := dL_eq e1
    exact ⟨fn_contractF (M := M_r03_List) rfl (tbl_ok (l1 := [(19, F_r03_Orders)]) (l2 := []) (l3 := []) (l4 := []) (l5 := []) ⟨ok_r03_Orders, trivial⟩ trivial trivial trivial trivial) Tryd.func12 (by kernel_rfl) N_r03_List 0 [.d] (fun hwf => (r03_List_spec a b (wfArg hwf (a := .d (.v (.dat (U := Un) Ty.row a))) (List.mem_of_getElem? (i := 0) rfl)) (wfArg hwf (a := .d (.v (.dat (U := Un) Ty.row b))) (List.mem_of_getElem? (i := 1) rfl)))), hasBody_of Tryd.func12 (by kernel_rfl) (by kernel_rfl)⟩
  · simp at h
end
end Go.Proofs.YtfdnnfbbjiglcaaDoor.B
namespace Go.Proofs.YtfdnnfbbjiglcaaDoor.B
open Go Go.RowKit Go.Shelf
set_option maxRecDepth 1000000
def ren_clone_row : Ren := ⟨fun | 41 => 22 | n => n, fun | 4 => 4 | 22 => 33 | 23 => 35 | n => n, fun | n => n⟩
theorem lays_clone_row : SlLaysE0.n41 Tryd.prog ren_clone_row := {
  mixed := by kernel_rfl
  f41 := ⟨Tryd.f22.name, by kernel_rfl, Tryd.func22.trans (congrArg some (by kernel_rfl))⟩
  t4 := Tryd.underlying4
  a4 := Tryd.isAgg4
  z4 := Tryd.sizeOf4
  v4 := Tryd.zeroValue4
  t22 := Tryd.underlying33
  a22 := Tryd.isAgg33
  z22 := Tryd.sizeOf33
  v22 := Tryd.zeroValue33 }
def F_clone_row : FnC Un := F_clone .val
theorem ok_clone_row : FnOK 22 F_clone_row := clone_inst lays_clone_row (by kernel_rfl) (hasBody_of Tryd.func22 (by kernel_rfl) (by kernel_rfl))
end Go.Proofs.YtfdnnfbbjiglcaaDoor.B
namespace Go.Proofs.YtfdnnfbbjiglcaaDoor.B
open Go Go.Sort
set_option linter.unusedVariables false
variable {α : Type} [Inhabited α]
def swR (d : Array α) (a b : Nat) : Nat → Array α
  | 0 => d
  | n + 1 => swR (swp d a b) (a + 1) (b + 1) n
def rotL : Nat → Array α → Nat → Nat → Nat → Array α
  | 0, d, m, i, _ => swR d (m - i) m i
  | f + 1, d, m, i, j => if i = j then swR d (m - i) m i else if j < i then rotL f (swR d (m - i) m j) m (i - j) j else rotL f (swR d (m - i) (m + j - i) i) m i (j - i)
def rotF (d : Array α) (a m b : Nat) : Array α := rotL (b - a) d m (m - a) (b - m)
def bsL (p : Nat → Bool) (i j : Nat) : Nat := if i < j then (if p ((i + j) / 2) then bsL p ((i + j) / 2 + 1) j else bsL p i ((i + j) / 2)) else i
termination_by j - i
decreasing_by all_goals omega
def upL (d : Array α) (k e : Nat) : Array α := if k < e then upL (swp d k (k + 1)) (k + 1) e else d
termination_by e - k
def dnL (d : Array α) (k i : Nat) : Array α := if i < k then dnL (swp d k (k - 1)) (k - 1) i else d
termination_by k - i
def symS (lt : α → α → Bool) (d : Array α) (a m b : Nat) : Nat :=
  bsL (fun c => !lt d[(a + b) / 2 + m - 1 - c]! d[c]!) (if (a + b) / 2 < m then (a + b) / 2 + m - b else a) (if (a + b) / 2 < m then (a + b) / 2 else m)
def symF (lt : α → α → Bool) : Nat → Array α → Nat → Nat → Nat → Array α
  | 0, d, _, _, _ => d
  | f + 1, d, a, m, b =>
    if m - a = 1 then upL d a (bsL (fun h => lt d[h]! d[a]!) m b - 1)
    else if b - m = 1 then dnL d m (bsL (fun h => !lt d[m]! d[h]!) a m)
    else
      let s := symS lt d a m b
      let e := (a + b) / 2 + m - s
      let d1 := if s < m ∧ m < e then rotF d s m e else d
      let d2 := if a < s ∧ s < (a + b) / 2 then symF lt f d1 a s ((a + b) / 2) else d1
      if (a + b) / 2 < e ∧ e < b then symF lt f d2 ((a + b) / 2) e b else d2
def stB (lt : α → α → Bool) (d : Array α) (a n bs : Nat) : Array α := if h : 0 < bs ∧ a + bs ≤ n then stB lt (Sort.insertionSort lt d a (a + bs)) (a + bs) n bs else Sort.insertionSort lt d a n
termination_by n - a
def stM (lt : α → α → Bool) (d : Array α) (a n bs : Nat) : Array α :=
  if h : 0 < bs ∧ a + 2 * bs ≤ n then stM lt (symF lt (2 * bs) d a (a + bs) (a + 2 * bs)) (a + 2 * bs) n bs
  else if a + bs < n then symF lt (n - a) d a (a + bs) n else d
termination_by n - a
def stR (lt : α → α → Bool) (d : Array α) (n bs : Nat) : Array α := if h : 0 < bs ∧ bs < n then stR lt (stM lt d 0 n bs) n (2 * bs) else d
termination_by n - bs
def stF (lt : α → α → Bool) (d : Array α) (n : Nat) : Array α := stR lt (stB lt d 0 n 20) n 20
theorem size_swR : ∀ (n : Nat) (d : Array α) (a b : Nat), (swR d a b n).size = d.size
  | 0, _, _, _ => rfl
  | n + 1, d, a, b => by rw [swR, size_swR n, size_swp]
theorem size_rotL : ∀ (f : Nat) (d : Array α) (m i j : Nat), (rotL f d m i j).size = d.size
  | 0, d, m, i, j => by rw [rotL, size_swR]
  | f + 1, d, m, i, j => by
    rw [rotL]
    split
    · rw [size_swR]
    · split
      · rw [size_rotL f, size_swR]
      · rw [size_rotL f, size_swR]
theorem size_rotF (d : Array α) (a m b : Nat) : (rotF d a m b).size = d.size := size_rotL _ _ _ _ _
theorem bsL_bd (p : Nat → Bool) (i j : Nat) (h : i ≤ j) : i ≤ bsL p i j ∧ bsL p i j ≤ j := by
  induction i, j using bsL.induct (p := p) with
  | case1 i j hlt hp ih => rw [bsL, if_pos hlt, if_pos hp]; have := ih (by omega); omega
  | case2 i j hlt hp ih => rw [bsL, if_pos hlt, if_neg hp]; have := ih (by omega); omega
  | case3 i j hlt => rw [bsL, if_neg hlt]; omega
theorem size_upL (d : Array α) (k e : Nat) : (upL d k e).size = d.size := by
  fun_induction upL d k e with
  | case1 d k h ih => rw [ih, size_swp]
  | case2 d k h => rfl
theorem size_dnL (d : Array α) (k i : Nat) : (dnL d k i).size = d.size := by
  fun_induction dnL d k i with
  | case1 d k h ih => rw [ih, size_swp]
  | case2 d k h => rfl
theorem size_symF (lt : α → α → Bool) : ∀ (f : Nat) (d : Array α) (a m b : Nat), (symF lt f d a m b).size = d.size
  | 0, _, _, _, _ => rfl
  | f + 1, d, a, m, b => by
    rw [symF]
    split
    · rw [size_upL]
    · split
      · rw [size_dnL]
      · simp only
        split <;> split <;> split <;> simp only [size_symF lt f, size_rotF]
end Go.Proofs.YtfdnnfbbjiglcaaDoor.B
namespace Go.Proofs.YtfdnnfbbjiglcaaDoor.B
open Go Go.RowKit Go.Shelf Go.Lib Go.Sort
set_option linter.unusedVariables false
variable {P : Program} {α : Type} [Inhabited α] {enc : α → Value} {w0 W : World} {blk off : Nat} {dk d0 : Array α}
def SX (enc : α → Value) (w0 : World) (blk off : Nat) (dk : Array α) (W : World) : Prop := Below w0.heap.size (putRow enc w0 blk off dk) W
def CmpX (P : Program) (g : Nat) (cb : Array Value) (enc : α → Value) (cf : α → α → Int) (blk off size : Nat) (w : World) : Prop :=
  ∀ (W : World) (dk : Array α), dk.size = size → SX enc w blk off dk W → ∀ x y : α, Calls P g (#[enc x, enc y] ++ cb) W fun e w' => e = .returned (.int .i64 (cf x y)) ∧ Below W.heap.size W w'
theorem SX.le (h : SX enc w0 blk off dk W) : w0.heap.size ≤ W.heap.size := by have := h.size; rwa [size_putRow] at this
theorem SX.below {W' : World} (h : SX enc w0 blk off dk W) (hb : Below W.heap.size W W') : SX enc w0 blk off dk W' := Below.trans h (hb.mono h.le)
theorem SX.drew (h : SX enc w0 blk off dk W) : SX enc w0 blk off dk W.drew := Below.drew h
theorem SX.regrown (h : SX enc w0 blk off dk W) (d : Nat) (os : Array Obj) : SX enc w0 blk off dk (grow (redrawn W d) os) := h.below (below_regrown W d os)
theorem SX.holds (h : SX enc w0 blk off dk W) (R : Row1 enc w0 blk off d0) (hs : dk.size = d0.size) : Holds enc W blk off dk := fun j hj => by
  obtain ⟨h1, h2⟩ := holds_putRow enc w0 blk off d0 dk R.hH hs j hj
  exact ⟨(Below.cell h R.hblk).trans h1, (Below.frozen h R.hblk).trans h2⟩
theorem SX.c1 (h : SX enc w0 blk off dk W) (R : Row1 enc w0 blk off d0) (hs : dk.size = d0.size) (i : Nat) (hi : i < dk.size) : W.cell? ⟨blk, off + i, none⟩ = some (enc dk[i]!) := (h.holds R hs i hi).1
theorem SX.f1 (h : SX enc w0 blk off dk W) (R : Row1 enc w0 blk off d0) (hs : dk.size = d0.size) (i : Nat) (hi : i < dk.size) : W.frozen? ⟨blk, off + i, none⟩ = false := (h.holds R hs i hi).2
theorem SX.cl (h : SX enc w0 blk off dk W) (R : Row1 enc w0 blk off d0) (hs : dk.size = d0.size) (i : Nat) (hi : i < dk.size) (n : Nat) (os : Array Obj) : (grow (redrawn W n) os).cell? ⟨blk, off + i, none⟩ = some (enc dk[i]!) := (h.regrown n os).c1 R hs i hi
theorem SX.cmp {g : Nat} {cb : Array Value} {cf : α → α → Int} {size : Nat} (h : SX enc w0 blk off dk W) (hC : CmpX P g cb enc cf blk off size w0) (hs : dk.size = size) (x y : α) (n : Nat) (os : Array Obj) :
    Calls P g (#[enc x, enc y] ++ cb) (grow (redrawn W n) os) fun e w' => e = .returned (.int .i64 (cf x y)) ∧ Below (grow (redrawn W n) os).heap.size (grow (redrawn W n) os) w' := hC _ dk hs (h.regrown n os) x y
theorem SX.c2 (h : SX enc w0 blk off dk W) (R : Row1 enc w0 blk off d0) (hs : dk.size = d0.size) (i j : Nat) (hi : i < dk.size) (hj : j < dk.size) (v : Value) :
    ∃ u, (W.setCell ⟨blk, off + i, none⟩ v).cell? ⟨blk, off + j, none⟩ = some u := by
  by_cases e : i = j
  · subst e; exact ⟨v, World.cell?_setCell_same _ _ _ (h.c1 R hs i hi)⟩
  · exact ⟨_, (World.cell?_setCell_other _ _ _ _ (by intro e'; simp only [Addr.mk.injEq] at e'; omega)).trans (h.c1 R hs j hj)⟩
theorem below_setCell2 {B : Nat} {A W : World} (h : Below B A W) (p : Addr) (v : Value) : Below B (A.setCell p v) (W.setCell p v) := by
  refine ⟨h.os, h.tape, h.output, by simpa using h.size, fun k hk => ?_⟩
  have hb := h.block k hk
  simp only [World.setCell, Array.getElem?_modify]
  rw [hb]
theorem SX.swapped (h : SX enc w0 blk off dk W) (R : Row1 enc w0 blk off d0) (i j : Nat) (hi : i < dk.size) (hj : j < dk.size) :
    SX enc w0 blk off (swp dk i j) ((W.setCell ⟨blk, off + i, none⟩ (enc dk[j]!)).setCell ⟨blk, off + j, none⟩ (enc dk[i]!)).drew := by
  refine SX.drew ?_
  unfold SX
  rw [← putRow_swp enc w0 blk off dk i j hi hj]
  exact below_setCell2 (below_setCell2 h _ _) _ _
end Go.Proofs.YtfdnnfbbjiglcaaDoor.B
namespace Go.Proofs.YtfdnnfbbjiglcaaDoor.B
open Go Go.RowKit Go.Shelf Go.Lib Go.Sort
set_option maxRecDepth 1000000
set_option linter.unusedVariables false
noncomputable section
variable {α : Type} [Inhabited α]
set_option maxHeartbeats 4000000 in
theorem swapRange_x (enc : α → Value) (g : Nat) (cb : Array Value) (blk off cap a b n : Nat) (d0 d : Array α) (w0 w : World)
    (R : Row1 enc w0 blk off d0) (hs : d0.size = d.size) (S : SX enc w0 blk off d w) (ha : a + n ≤ d.size) (hb : b + n ≤ d.size) (hsz : d.size < 4611686018427387904) :
    Calls Tryd.prog 68 #[.slice (some ⟨blk, off, none⟩) d.size cap, .int .i64 a, .int .i64 b, .int .i64 n, .func (.func g) #[] cb] w fun e w' => e = .returned (.tuple #[]) ∧ SX enc w0 blk off (swR d a b n) w' := by
  have mixed : Tryd.prog.follows .mixedOrders = true := by kernel_rfl
  have hcl0 := R.hO.cells
  simp only [Value.cells] at hcl0
  have hst := R.hO.store Tryd.prog
  have S0 : Aside (SX enc w0 blk off d w) := S
  clear S
  go_enter Tryd.func68, Tryd.ntmps68
  go_wp2
  go_loopg [10] (n) (fun kx s10 wr => ∃ (i : Nat) (dk : Array α), s10 = .int .i64 i ∧ i ≤ n ∧ n - i ≤ kx ∧ dk.size = d.size ∧ Aside (SX enc w0 blk off dk wr) ∧ swR dk (a + i) (b + i) (n - i) = swR d a b n)
  case atStart => exact ⟨0, d, rfl, Nat.zero_le _, by omega, rfl, S0, rfl⟩
  case round =>
    clear S0
    obtain ⟨i, dk, rfl, hi, hkx, hds, S1, heq⟩ := hrel
    by_cases hlt : i < n
    · have hltz : (i : Int) < (n : Int) := by omega
      go_wp2_with fail
      obtain ⟨iN1, hiN1⟩ : ∃ q, q = a + i := ⟨_, rfl⟩
      obtain ⟨jN1, hjN1⟩ : ∃ q, q = b + i := ⟨_, rfl⟩
      have ea1 : ((a : Int) + (i : Int)).toNat = iN1 := by omega
      have pa1 : (0 : Int) ≤ (a : Int) + (i : Int) := by omega
      have ba1 : (a : Int) + (i : Int) < (d.size : Int) := by omega
      have ra1 : IntKind.i64.wrap ((a : Int) + (i : Int)) = (a : Int) + (i : Int) := by rw [IntKind.wrap_i64]; omega
      have ec1 : ((b : Int) + (i : Int)).toNat = jN1 := by omega
      have pc1 : (0 : Int) ≤ (b : Int) + (i : Int) := by omega
      have bc1 : (b : Int) + (i : Int) < (d.size : Int) := by omega
      have rc1 : IntKind.i64.wrap ((b : Int) + (i : Int)) = (b : Int) + (i : Int) := by rw [IntKind.wrap_i64]; omega
      obtain ⟨x1, hx1⟩ : ∃ x, x = dk[a + i]! := ⟨_, rfl⟩
      obtain ⟨y1, hy1⟩ : ∃ x, x = dk[b + i]! := ⟨_, rfl⟩
      have S2 : Aside (SX enc w0 blk off (swp dk (a + i) (b + i)) ((wr.setCell ⟨blk, off + iN1, none⟩ (enc y1)).setCell ⟨blk, off + jN1, none⟩ (enc x1)).drew) := by rw [hiN1, hjN1, hx1, hy1]; exact S1.out.swapped R (a + i) (b + i) (by omega) (by omega)
      have c1a := S1.out.c1 R (by omega) (a + i) (by omega)
      have c1b := S1.out.c1 R (by omega) (b + i) (by omega)
      have f1a := S1.out.f1 R (by omega) (a + i) (by omega)
      have f1b := S1.out.f1 R (by omega) (b + i) (by omega)
      obtain ⟨u1, c1c⟩ := S1.out.c2 R (by omega) (a + i) (b + i) (by omega) (by omega) (enc y1)
      rw [← hjN1, ← hiN1] at c1c
      rw [← hx1, ← hiN1] at c1a
      rw [← hy1, ← hjN1] at c1b
      rw [← hiN1] at f1a
      rw [← hjN1] at f1b
      clear S1 hx1 hy1 hiN1 hjN1
      go_wp2_with fail
      go_big_region_o
      clear c1a c1b c1c f1a f1b
      generalize ((wr.setCell ⟨blk, off + iN1, none⟩ (enc y1)).setCell ⟨blk, off + jN1, none⟩ (enc x1)).drew = w2 at S2 ⊢
      clear ea1 ec1
      go_wp2
      go_roundg (n - (i + 1))
      case measure => omega
      case rel =>
        refine ⟨i + 1, swp dk (a + i) (b + i), by go_num, by omega, Nat.le_refl _, by rw [size_swp]; exact hds, S2, ?_⟩
        rw [← heq, show n - i = (n - (i + 1)) + 1 by omega, swR]
        rfl
    · have hltz : ¬ (i : Int) < (n : Int) := by omega
      go_wp2
      go_end0
      refine ⟨rfl, ?_⟩
      rw [show n - i = 0 by omega, swR] at heq
      rw [← heq]; exact S1.out
set_option maxHeartbeats 4000000 in
theorem rotate_x (enc : α → Value) (g : Nat) (cb : Array Value) (blk off cap a m b : Nat) (d0 d : Array α) (w0 w : World)
    (R : Row1 enc w0 blk off d0) (hs : d0.size = d.size) (S : SX enc w0 blk off d w) (ham : a < m) (hmb : m < b) (hb : b ≤ d.size) (hsz : d.size < 4611686018427387904) :
    Calls Tryd.prog 62 #[.slice (some ⟨blk, off, none⟩) d.size cap, .int .i64 a, .int .i64 m, .int .i64 b, .func (.func g) #[] cb] w fun e w' => e = .returned (.tuple #[]) ∧ SX enc w0 blk off (rotF d a m b) w' := by
  have mixed : Tryd.prog.follows .mixedOrders = true := by kernel_rfl
  have S0 : Aside (SX enc w0 blk off d w) := S
  clear S
  go_enter Tryd.func62, Tryd.ntmps62
  go_wp2
  go_loopg [10, 11] (b - a) (fun kx s10 s11 wr => ∃ (f i j : Nat) (dk : Array α), s10 = .int .i64 i ∧ s11 = .int .i64 j ∧ 0 < i ∧ 0 < j ∧ i ≤ m ∧ m + j ≤ d.size ∧ i + j ≤ f ∧ i + j ≤ kx ∧ dk.size = d.size ∧ Aside (SX enc w0 blk off dk wr) ∧ rotL f dk m i j = rotF d a m b)
  case atStart => exact ⟨b - a, m - a, b - m, d, by go_num, by go_num, by omega, by omega, by omega, by omega, by omega, by omega, rfl, S0, rfl⟩
  case round =>
    clear S0
    obtain ⟨f, i, j, dk, rfl, rfl, hi, hj, him, hjm, hf, hkx, hds, S1, heq⟩ := hrel
    obtain ⟨f, rfl⟩ : ∃ q, f = q + 1 := ⟨f - 1, by omega⟩
    rw [rotL] at heq
    by_cases he : i = j
    · rw [if_pos he] at heq
      subst he
      have hne : ((i : Int) != (i : Int)) = false := by simp
      go_wp2_with (first
        | (go_at_call 68; rw [show ((m : Int) - (i : Int)) = ((m - i : Nat) : Int) by omega]; rw [← hds]; refine (swapRange_x enc g cb blk off cap (m - i) m i d0 dk w0 _ R (by omega) S1.out (by omega) (by omega) (by omega)).mono ?_; rintro e w' ⟨rfl, S2⟩; have S3 := Lib.hid S2; clear S2)
        | fail)
      go_end0
      exact ⟨rfl, by rw [← heq]; exact S3.out⟩
    · rw [if_neg he] at heq
      have hne : ((i : Int) != (j : Int)) = true := by simp; omega
      by_cases hij : j < i
      · rw [if_pos hij] at heq
        have hgt : (j : Int) < (i : Int) := by omega
        go_wp2_with (first
          | (go_at_call 68; rw [show ((m : Int) - (i : Int)) = ((m - i : Nat) : Int) by omega]; rw [← hds]; refine (swapRange_x enc g cb blk off cap (m - i) m j d0 dk w0 _ R (by omega) S1.out (by omega) (by omega) (by omega)).mono ?_; rintro e w' ⟨rfl, S2⟩; have S3 := Lib.hid S2; clear S2)
          | fail)
        go_roundg (i - j + j)
        case measure => omega
        case rel => exact ⟨f, i - j, j, _, by go_num, rfl, by omega, by omega, by omega, by omega, by omega, by omega, by rw [size_swR]; exact hds, S3.out, heq⟩
      · rw [if_neg hij] at heq
        have hgt : ¬ (j : Int) < (i : Int) := by omega
        go_wp2_with (first
          | (go_at_call 68; rw [show ((m : Int) - (i : Int)) = ((m - i : Nat) : Int) by omega]; rw [show ((m : Int) + (j : Int) - (i : Int)) = ((m + j - i : Nat) : Int) by omega]; rw [← hds]; refine (swapRange_x enc g cb blk off cap (m - i) (m + j - i) i d0 dk w0 _ R (by omega) S1.out (by omega) (by omega) (by omega)).mono ?_; rintro e w' ⟨rfl, S2⟩; have S3 := Lib.hid S2; clear S2)
          | fail)
        go_roundg (i + (j - i))
        case measure => omega
        case rel => exact ⟨f, i, j - i, _, rfl, by go_num, by omega, by omega, by omega, by omega, by omega, by omega, by rw [size_swR]; exact hds, S3.out, heq⟩
end
end Go.Proofs.YtfdnnfbbjiglcaaDoor.B
