/- Part 17 of the proof: Sref33 Sref33b Sref33c Lgrpl Lgrpb Svnum Sdeqp Sr03l Lclone. -/
import Derived.Test.YtfdnnfbbjiglcaaDoorGrp16
namespace Go.Proofs.YtfdnnfbbjiglcaaDoor.B
open Go Go.RowKit
set_option maxRecDepth 100000
noncomputable section
attribute [local irreducible] awp ctxK itersK iterK retQ retGQ awf ctxF loopF
def M_r33_Lists : Mc Un := mach (tbl []) (tbl []) (tbl []) (tbl []) (tbl [])
def A_r33_Lists (r : Bool) : List (A Un) := [.c (.s (.bool r))]
def O_r33_Lists (_r : Bool) : List (Ob Un) := []
def R_r33_Lists (r : Bool) : RF Un := (A_r33_Lists r, O_r33_Lists r)
def N_r33_Lists : Nat → NS := fun l => (look l [(2, { ts := bl 59 51, bs := bl 59 0, nm := [], cs := true }), (7, { ts := bl 59 115, bs := bl 59 0, nm := [], cs := true })]).getD ⟨[], [], [], [], [], true⟩
def r33_Lists_s2 (a : List (List Int)) (b : List (List Int)) (v0 : Int) : S Un := (st 59 59 236 0 [(0, al .ints a), (1, al .ints b), (4, ab false), (5, ai v0)] [] [])
def r33_Lists_s7 (a : List (List Int)) (b : List (List Int)) (v0 : Int) (v1 : Int) : S Un := (st 59 59 236 0 [(0, al .ints a), (1, al .ints b), (4, ab false), (5, ai v0), (6, ai v1)] [] [])
noncomputable def r33_Lists_B2 : Code := sub (bodyOf Tryd.f7) [1, 0, 1, 2, 2]
def r33_Lists_L2 : S Un → Option (EX Un) := loopF (N_r33_Lists 2) (fun s Q => awf M_r33_Lists N_r33_Lists r33_Lists_B2 s Q)
noncomputable def r33_Lists_B7 : Code := sub (sub (bodyOf Tryd.f7) [1, 0, 1, 2, 2]) [1, 0, 2, 1, 1, 2, 2]
def r33_Lists_L7 : S Un → Option (EX Un) := loopF (N_r33_Lists 7) (fun s Q => awf M_r33_Lists N_r33_Lists r33_Lists_B7 s Q)
def r33_Lists_C2 : Exit → S Un → Option (RF Un) := ctxF M_r33_Lists N_r33_Lists (bodyOf Tryd.f7) [1, 0, 1, 2] (retF M_r33_Lists Tryd.f7.results.toList [.d])
def r33_Lists_C7 : Exit → S Un → Option (EX Un) := ctxF M_r33_Lists N_r33_Lists r33_Lists_B2 [1, 0, 2, 1, 1, 2] (roundF (N_r33_Lists 2) r33_Lists_L2)
def r33_Lists_fn (a : List (List Int)) (b : List (List Int)) : Option (RF Un) := awf M_r33_Lists N_r33_Lists (bodyOf Tryd.f7) (entry Tryd.f7.ntmps 0 [.d (.v (.dat (U := Un) Ty.ints a)), .d (.v (.dat (U := Un) Ty.ints b))]) (retF M_r33_Lists Tryd.f7.results.toList [.d])
theorem r33_Lists_in (a : List (List Int)) (b : List (List Int)) : r33_Lists_fn a b =
 (r33_Lists_L2 (r33_Lists_s2 a b (0 : Int))).bind (thenX r33_Lists_C2) := by kernel_rfl
theorem r33_Lists_l2 (a : List (List Int)) (b : List (List Int)) (v0 : Int) : r33_Lists_L2 (r33_Lists_s2 a b v0) =
 cndO (decide (v0 < (↑a.length : Int)))
  (cndO (decide (v0 < (↑b.length : Int)))
   (obO (0 ≤ v0 ∧ v0 < (↑a.length : Int))
    (obO (0 ≤ v0 ∧ v0 < (↑b.length : Int))
     (cndO ((↑(List.length (a.getD v0.toNat [])) : Int) != (↑(List.length (b.getD v0.toNat [])) : Int))
      (some (.ret, (r33_Lists_s2 a b v0)))
      ((r33_Lists_L7 (r33_Lists_s7 a b v0 (0 : Int))).bind (thenX r33_Lists_C7)))))
   (some (.exit 0, (r33_Lists_s2 a b v0))))
  (some (.exit 0, (r33_Lists_s2 a b v0))) := (loopF_eq (N_r33_Lists 2) r33_Lists_B2 _).trans (by kernel_rfl)
theorem r33_Lists_a2_ret (a : List (List Int)) (b : List (List Int)) (v0 : Int) : r33_Lists_C2 .ret (r33_Lists_s2 a b v0) =
 some (R_r33_Lists (false)) := by kernel_rfl
theorem r33_Lists_a2_x0 (a : List (List Int)) (b : List (List Int)) (v0 : Int) : r33_Lists_C2 (.exit 0) (r33_Lists_s2 a b v0) =
 some (R_r33_Lists ((↑a.length : Int) == (↑b.length : Int))) := by kernel_rfl
theorem r33_Lists_l7 (a : List (List Int)) (b : List (List Int)) (v0 : Int) (v1 : Int) : r33_Lists_L7 (r33_Lists_s7 a b v0 v1) =
 obO (0 ≤ v0 ∧ v0 < (↑a.length : Int))
  (cndO (decide (v1 < (↑(List.length (a.getD v0.toNat [])) : Int)))
   (obO (0 ≤ v0 ∧ v0 < (↑a.length : Int))
    (obO (0 ≤ v1 ∧ v1 < (↑(List.length (a.getD v0.toNat [])) : Int))
     (obO (0 ≤ v0 ∧ v0 < (↑b.length : Int))
      (obO (0 ≤ v1 ∧ v1 < (↑(List.length (b.getD v0.toNat [])) : Int))
       (cndO (List.getD (a.getD v0.toNat []) v1.toNat (0 : Int) != List.getD (b.getD v0.toNat []) v1.toNat (0 : Int))
        (some (.ret, (r33_Lists_s7 a b v0 v1)))
        (r33_Lists_L7 (r33_Lists_s7 a b v0 (IntKind.i64.wrap (v1 + 1)))))))))
   (some (.exit 2, (r33_Lists_s7 a b v0 v1)))) := (loopF_eq (N_r33_Lists 7) r33_Lists_B7 _).trans (by kernel_rfl)
theorem r33_Lists_a7_ret (a : List (List Int)) (b : List (List Int)) (v0 : Int) (v1 : Int) : r33_Lists_C7 .ret (r33_Lists_s7 a b v0 v1) =
 some (.ret, (r33_Lists_s2 a b v0)) := by kernel_rfl
theorem r33_Lists_a7_x2 (a : List (List Int)) (b : List (List Int)) (v0 : Int) (v1 : Int) : r33_Lists_C7 (.exit 2) (r33_Lists_s7 a b v0 v1) =
 r33_Lists_L2 (r33_Lists_s2 a b (IntKind.i64.wrap (v0 + 1))) := by kernel_rfl
def r33_Lists (a b : List (List Int)) : Bool := decide (a = b)
theorem r33_row (a b : List (List Int)) (i : Nat) (x y : List Int) (hia : i < a.length) (hib : i < b.length) (hx : a.getD i [] = x) (hy : b.getD i [] = y) (hl : x.length = y.length) (hm : x.length ≤ 9223372036854775807) : ∀ (rx ry : List Int) (j : Nat), x.drop j = rx → y.drop j = ry → j ≤ x.length →
    (r33_Lists_L7 (r33_Lists_s7 a b (i : Int) (j : Int))).bind (thenX r33_Lists_C7) = if rx = ry then r33_Lists_L2 (r33_Lists_s2 a b (IntKind.i64.wrap ((i : Int) + 1))) else some (.ret, r33_Lists_s2 a b (i : Int)) := by
  intro rx
  induction rx with
  | nil =>
    intro ry j e1 e2 hj
    have n1 : x.length ≤ j := List.drop_eq_nil_iff.1 e1
    have : ry = [] := by rw [← e2]; exact List.drop_eq_nil_of_le (by omega)
    subst this
    have hL : r33_Lists_L7 (r33_Lists_s7 a b (i : Int) (j : Int)) = some (.exit 2, r33_Lists_s7 a b (i : Int) (j : Int)) := by
      rw [r33_Lists_l7, Int.toNat_natCast, hx, obO_pos (by omega), cndO_eq, if_neg (by rw [decide_eq_true_eq]; omega)]
    rw [loop_end hL, r33_Lists_a7_x2, if_pos rfl]
  | cons p rx ih =>
    intro ry j e1 e2 hj
    obtain ⟨a1, a2, a3, _⟩ := drop_cons e1
    cases ry with
    | nil =>
      have : y.length ≤ j := List.drop_eq_nil_iff.1 e2
      omega
    | cons q ry =>
      obtain ⟨b1, b2, b3, _⟩ := drop_cons e2
      have a2' : x.getD j 0 = p := a2 _
      have b2' : y.getD j 0 = q := b2 _
      by_cases hpq : p = q
      · have hL : r33_Lists_L7 (r33_Lists_s7 a b (i : Int) (j : Int)) = r33_Lists_L7 (r33_Lists_s7 a b (i : Int) ((j + 1 : Nat) : Int)) := by
          rw [r33_Lists_l7]
          simp only [Int.toNat_natCast, hx, hy, a2', b2', cndO_eq, decide_eq_true_eq]
          rw [obO_pos (by omega), if_pos (by omega), obO_pos (by omega), obO_pos (by omega), obO_pos (by omega), obO_pos (by omega), if_neg (by simp [hpq]), wrap_id (by omega)]
          rfl
        rw [hL, ih ry (j + 1) a3 b3 (by omega)]
        by_cases hr : rx = ry
        · rw [if_pos hr, if_pos (by rw [hpq, hr])]
        · rw [if_neg hr, if_neg (fun e => hr (List.cons.inj e).2)]
      · have hL : r33_Lists_L7 (r33_Lists_s7 a b (i : Int) (j : Int)) = some (.ret, r33_Lists_s7 a b (i : Int) (j : Int)) := by
          rw [r33_Lists_l7]
          simp only [Int.toNat_natCast, hx, hy, a2', b2', cndO_eq, decide_eq_true_eq]
          rw [obO_pos (by omega), if_pos (by omega), obO_pos (by omega), obO_pos (by omega), obO_pos (by omega), obO_pos (by omega), if_pos (by simpa using hpq)]
        rw [loop_end hL, r33_Lists_a7_ret, if_neg (fun e => hpq (List.cons.inj e).1)]
theorem r33_Lists_spec (a b : List (List Int)) (ha : WL .ints a) (hb : WL .ints b) : r33_Lists_fn a b = some (R_r33_Lists (r33_Lists a b)) := by
  have la := ha.len
  have key : ∀ (ra rb : List (List Int)) (i : Nat), a.drop i = ra → b.drop i = rb → i ≤ a.length → i ≤ b.length →
      (r33_Lists_L2 (r33_Lists_s2 a b (i : Int))).bind (thenX r33_Lists_C2) = some (R_r33_Lists (decide (ra = rb))) := by
    intro ra
    induction ra with
    | nil =>
      intro rb i e1 e2 i1 i2
      have n1 : a.length ≤ i := List.drop_eq_nil_iff.1 e1
      have hL : r33_Lists_L2 (r33_Lists_s2 a b (i : Int)) = some (.exit 0, r33_Lists_s2 a b (i : Int)) := by
        rw [r33_Lists_l2, cndO_eq, if_neg (by rw [decide_eq_true_eq]; omega)]
      rw [loop_end hL, r33_Lists_a2_x0]
      congr 2
      rw [Bool.eq_iff_iff, beq_iff_eq, decide_eq_true_eq]
      have := drop_len e2
      cases rb with
      | nil => simp at this; constructor <;> intro _ <;> first | rfl | omega
      | cons y rb => simp at this; constructor <;> intro h <;> first | omega | simp at h
    | cons x ra ih =>
      intro rb i e1 e2 i1 i2
      obtain ⟨a1, a2, a3, _⟩ := drop_cons e1
      have a2' : a.getD i [] = x := a2 _
      cases rb with
      | nil =>
        have n2 : b.length ≤ i := List.drop_eq_nil_iff.1 e2
        have hL : r33_Lists_L2 (r33_Lists_s2 a b (i : Int)) = some (.exit 0, r33_Lists_s2 a b (i : Int)) := by
          rw [r33_Lists_l2, cndO_eq, if_pos (by rw [decide_eq_true_eq]; omega), cndO_eq, if_neg (by rw [decide_eq_true_eq]; omega)]
        rw [loop_end hL, r33_Lists_a2_x0]
        congr 2
        rw [Bool.eq_iff_iff, beq_iff_eq, decide_eq_true_eq]
        constructor <;> intro h <;> first | omega | simp at h
      | cons y rb =>
        obtain ⟨b1, b2, b3, _⟩ := drop_cons e2
        have b2' : b.getD i [] = y := b2 _
        have hxm : x ∈ a := by rw [← a2', List.getD_eq_getElem?_getD, List.getElem?_eq_getElem a1]; exact List.getElem_mem _
        have hxl : x.length ≤ 9223372036854775807 := (show WL .int x from (ha.get hxm) _ (by first | exact List.mem_singleton.2 rfl | simp [enc])).len
        have hL0 : r33_Lists_L2 (r33_Lists_s2 a b (i : Int)) = if x = y then r33_Lists_L2 (r33_Lists_s2 a b ((i + 1 : Nat) : Int)) else some (.ret, r33_Lists_s2 a b (i : Int)) := by
          rw [r33_Lists_l2]
          simp only [Int.toNat_natCast, a2', b2', cndO_eq, decide_eq_true_eq]
          rw [if_pos (by omega), if_pos (by omega), obO_pos (by omega), obO_pos (by omega)]
          by_cases hl : x.length = y.length
          · rw [if_neg (by simp [hl])]
            have := r33_row a b i x y a1 b1 a2' b2' hl hxl x y 0 rfl rfl (Nat.zero_le _)
            rw [wrap_id (by omega)] at this
            exact this
          · rw [if_pos (by simp; omega), if_neg (fun e => hl (by rw [e]))]
        by_cases hxy : x = y
        · rw [if_pos hxy] at hL0
          rw [hL0, ih rb (i + 1) a3 b3 (by omega) (by omega)]
          congr 2
          exact decide_eq_decide.2 ⟨fun e => by rw [hxy, e], fun e => (List.cons.inj e).2⟩
        · rw [if_neg hxy] at hL0
          rw [loop_end hL0, r33_Lists_a2_ret, decide_eq_false (fun e => hxy (List.cons.inj e).1)]
  rw [r33_Lists_in]
  exact key a b 0 rfl rfl (Nat.zero_le _) (Nat.zero_le _)
def F_r33_Lists : FnC Un := fun args => match args with
  | [x0, x1] => (dL .ints x0).bind fun a => (dL .ints x1).bind fun b => some ([], A_r33_Lists (r33_Lists a b), O_r33_Lists (r33_Lists a b))
  | _ => none
theorem ok_r33_Lists : FnOK 7 F_r33_Lists := by
  intro args ob rs os h hob
  unfold F_r33_Lists at h
  split at h
  · simp only [Option.bind_eq_some_iff, Option.some.injEq, Prod.mk.injEq] at h
    obtain ⟨a, e0, b, e1, rfl, rfl, rfl⟩ := h
    obtain rfl := dL_eq e0
    obtain rfl := dL_eq e1
    exact ⟨fn_contractF (M := M_r33_Lists) rfl (tbl_ok (l1 := []) (l2 := []) (l3 := []) (l4 := []) (l5 := []) trivial trivial trivial trivial trivial) Tryd.func7 (by kernel_rfl) N_r33_Lists 0 [.d] (fun hwf => (r33_Lists_spec a b (wfArg hwf (a := .d (.v (.dat (U := Un) Ty.ints a))) (List.mem_of_getElem? (i := 0) rfl)) (wfArg hwf (a := .d (.v (.dat (U := Un) Ty.ints b))) (List.mem_of_getElem? (i := 1) rfl)))), hasBody_of Tryd.func7 (by kernel_rfl) (by kernel_rfl)⟩
  · simp at h
end
end Go.Proofs.YtfdnnfbbjiglcaaDoor.B
namespace Go.Proofs.YtfdnnfbbjiglcaaDoor.B
open Go Go.RowKit
set_option maxRecDepth 100000
noncomputable section
attribute [local irreducible] awp ctxK itersK iterK retQ retGQ awf ctxF loopF
def M_r33_Distinct : Mc Un := mach (tbl [(9, F_r33_Groups)]) (tbl []) (tbl []) (tbl []) (tbl [])
def A_r33_Distinct (r : List (List Val)) : List (A Un) := [.c (.sl (U := Un) Ty.row r false)]
def O_r33_Distinct (_r : List (List Val)) : List (Ob Un) := []
def R_r33_Distinct (r : List (List Val)) : RF Un := (A_r33_Distinct r, O_r33_Distinct r)
def N_r33_Distinct : Nat → NS := fun l => (look l [(4, { ts := bl 30 57, bs := bl 30 0, nm := [(.sl 4, 120)], cs := true })]).getD ⟨[], [], [], [], [], true⟩
def r33_Distinct_s4 (l : List (List Val)) (v0 : Int) (v1 : List (List Val)) : S Un := (st 30 30 121 0 [(0, al .row l), (3, al .ints (r33_Groups l)), (4, ao 120), (5, ai v0)] [] [(120, some ⟨(0 : Nat), Ty.row, v1, some (0 : Nat), true⟩)])
noncomputable def r33_Distinct_B4 : Code := sub (bodyOf Tryd.f14) [1, 1, 1, 0, 1, 2, 2]
def r33_Distinct_L4 : S Un → Option (EX Un) := loopF (N_r33_Distinct 4) (fun s Q => awf M_r33_Distinct N_r33_Distinct r33_Distinct_B4 s Q)
def r33_Distinct_C4 : Exit → S Un → Option (RF Un) := ctxF M_r33_Distinct N_r33_Distinct (bodyOf Tryd.f14) [1, 1, 1, 0, 1, 2] (retF M_r33_Distinct Tryd.f14.results.toList [.d])
def r33_Distinct_fn (l : List (List Val)) : Option (RF Un) := awf M_r33_Distinct N_r33_Distinct (bodyOf Tryd.f14) (entry Tryd.f14.ntmps 1 [.d (.v (.dat (U := Un) Ty.row l))]) (retF M_r33_Distinct Tryd.f14.results.toList [.d])
theorem r33_Distinct_in (l : List (List Val)) : r33_Distinct_fn l =
 obO (l.length ≤ (2000000 : Nat))
  ((r33_Distinct_L4 (r33_Distinct_s4 l (0 : Int) ([]))).bind (thenX r33_Distinct_C4)) := by kernel_rfl
theorem r33_Distinct_l4 (l : List (List Val)) (v0 : Int) (v1 : List (List Val)) : r33_Distinct_L4 (r33_Distinct_s4 l v0 v1) =
 cndO (decide (v0 < (↑(r33_Groups l).length : Int)))
  (obO (0 ≤ v0 ∧ v0 < (↑(r33_Groups l).length : Int))
   (obO ((0 : Int) ≤ (0 : Int) ∧ (0 : Int) < (↑(List.length ((r33_Groups l).getD v0.toNat [])) : Int))
    (obO (0 ≤ List.getD ((r33_Groups l).getD v0.toNat []) 0 (0 : Int) ∧ List.getD ((r33_Groups l).getD v0.toNat []) 0 (0 : Int) < (↑l.length : Int))
     (obO ((0 + List.length (l.getD (Int.toNat (List.getD ((r33_Groups l).getD v0.toNat []) 0 (0 : Int))) [])) * (32 : Nat) ≤ roomB)
      (obO ((v1.length + [[] ++ l.getD (Int.toNat (List.getD ((r33_Groups l).getD v0.toNat []) 0 (0 : Int))) []].length) * (24 : Nat) ≤ roomB)
       (r33_Distinct_L4 (r33_Distinct_s4 l (IntKind.i64.wrap (v0 + 1)) (v1 ++ [[] ++ l.getD (Int.toNat (List.getD ((r33_Groups l).getD v0.toNat []) 0 (0 : Int))) []]))))))))
  (some (.exit 0, (r33_Distinct_s4 l v0 v1))) := (loopF_eq (N_r33_Distinct 4) r33_Distinct_B4 _).trans (by kernel_rfl)
theorem r33_Distinct_a4_x0 (l : List (List Val)) (v0 : Int) (v1 : List (List Val)) : r33_Distinct_C4 (.exit 0) (r33_Distinct_s4 l v0 v1) =
 some (R_r33_Distinct (v1)) := by kernel_rfl
def rowsOK (l : List (List Val)) : Prop := l.length ≤ 2000000 ∧ ∀ x ∈ l, x.length ≤ 1000000000
def r33_Distinct (l : List (List Val)) : List (List Val) := (r33_Groups l).map fun g => keyAt l (g.headD 0)
theorem foldG_snoc {α β : Type} (f : α → β) : ∀ (l : List α) (s : List β), l.foldl (fun s x => s ++ [f x]) s = s ++ l.map f
  | [], s => by simp
  | x :: l, s => by rw [List.foldl_cons, foldG_snoc f l]; simp
theorem getD_headD (g : List Int) : g.getD 0 0 = g.headD 0 := by cases g <;> rfl
theorem r33_Distinct_spec (l : List (List Val)) (_hl : WL .row l) (h : rowsOK l) : r33_Distinct_fn l = some (R_r33_Distinct (r33_Distinct l)) := by
  obtain ⟨h1, h2⟩ := h
  have hG := gRun_ok (keyAt l) l.length
  have hgl := gRun_len (keyAt l) l.length
  obtain ⟨out, hout⟩ : ∃ out, out = r33_Groups l := ⟨_, rfl⟩
  have hG' : GI (keyAt l) l.length out := by rw [hout]; exact hG
  have hgl' : out.length ≤ l.length := by rw [hout]; exact hgl
  obtain ⟨lp, _⟩ := loop_fold (e := .exit 0) (L := r33_Distinct_L4) (st := fun (s : List (List Val)) i => r33_Distinct_s4 l i s) (l := out) (d := []) (g := fun s x => s ++ [keyAt l (x.headD 0)]) (fun i s => s.length = i) (by omega)
    (fun s i x hi hx hI => by
      have hI' : s.length = i := hI
      have hne := hG'.ne i (by omega)
      rw [hx] at hne
      have hhd : x.headD 0 ∈ out.getD i [] := by
        rw [hx]
        cases x with
        | nil => exact (hne rfl).elim
        | cons a r => exact List.mem_cons_self
      obtain ⟨m1, m2, _⟩ := hG'.mem i _ hhd
      have hxl : 0 < x.length := List.length_pos_iff.2 hne
      have hrow : (keyAt l (x.headD 0)).length ≤ 1000000000 := by
        unfold keyAt
        have hlt : (x.headD 0).toNat < l.length := by omega
        rw [List.getD_eq_getElem?_getD, List.getElem?_eq_getElem hlt]
        exact h2 _ (List.getElem_mem _)
      refine ⟨by show (s ++ [_]).length = i + 1; rw [List.length_append, List.length_singleton]; omega, ?_⟩
      rw [r33_Distinct_l4]
      simp only [← hout, cndO_eq, hi, decide_true, if_true, and_true, Int.toNat_natCast, hx, getD_headD, List.nil_append]
      have hk : l.getD (x.headD 0).toNat [] = keyAt l (x.headD 0) := rfl
      rw [hk, obO_pos (by omega), obO_pos (by omega), obO_pos ⟨m1, m2⟩, obO_pos (by unfold roomB; omega), obO_pos (by unfold roomB; rw [List.length_singleton]; omega)])
    (fun s _ => by rw [r33_Distinct_l4, ← hout]; simp [cndO_eq]) [] rfl
  rw [foldG_snoc, List.nil_append] at lp
  rw [r33_Distinct_in, obO_pos h1]
  refine (loop_end lp).trans ?_
  rw [r33_Distinct_a4_x0, hout]
  rfl
def F_r33_Distinct : FnC Un := fun args => match args with
  | [x0] => (dL .row x0).bind fun l => some ([rowsOK l], A_r33_Distinct (r33_Distinct l), O_r33_Distinct (r33_Distinct l))
  | _ => none
theorem ok_r33_Distinct : FnOK 14 F_r33_Distinct := by
  intro args ob rs os h hob
  unfold F_r33_Distinct at h
  split at h
  · simp only [Option.bind_eq_some_iff, Option.some.injEq, Prod.mk.injEq] at h
    obtain ⟨l, e0, rfl, rfl, rfl⟩ := h
    obtain rfl := dL_eq e0
    exact ⟨fn_contractF (M := M_r33_Distinct) rfl (tbl_ok (l1 := [(9, F_r33_Groups)]) (l2 := []) (l3 := []) (l4 := []) (l5 := []) ⟨ok_r33_Groups, trivial⟩ trivial trivial trivial trivial) Tryd.func14 (by kernel_rfl) N_r33_Distinct 1 [.d] (fun hwf => (r33_Distinct_spec l (wfArg hwf (a := .d (.v (.dat (U := Un) Ty.row l))) (List.mem_of_getElem? (i := 0) rfl)) (hob _ (List.mem_of_getElem? (i := 0) rfl)))), hasBody_of Tryd.func14 (by kernel_rfl) (by kernel_rfl)⟩
  · simp at h
end
end Go.Proofs.YtfdnnfbbjiglcaaDoor.B
namespace Go.Proofs.YtfdnnfbbjiglcaaDoor.B
open Go Go.RowKit
set_option maxRecDepth 100000
noncomputable section
attribute [local irreducible] awp ctxK itersK iterK retQ retGQ awf ctxF loopF
def M_r33_Sorted : Mc Un := mach (tbl [(9, F_r33_Groups), (19, F_r03_Orders)]) (tbl []) (tbl []) (tbl []) (tbl [])
def A_r33_Sorted (r : List (List Int)) : List (A Un) := [.c (.sl (U := Un) Ty.ints r false)]
def O_r33_Sorted (_r : List (List Int)) : List (Ob Un) := []
def R_r33_Sorted (r : List (List Int)) : RF Un := (A_r33_Sorted r, O_r33_Sorted r)
def N_r33_Sorted : Nat → NS := fun l => (look l [(4, { ts := bl 63 57, bs := bl 63 0, nm := [(.sl 4, 252)], cs := true }), (7, { ts := bl 63 121, bs := bl 63 0, nm := [(.sl 4, 253)], cs := true })]).getD ⟨[], [], [], [], [], true⟩
def r33_Sorted_s4 (keys : List (List Val)) (v0 : Int) (v1 : List (List Int)) : S Un := (st 63 63 254 0 [(0, al .row keys), (3, al .ints (r33_Groups keys)), (4, ao 252), (5, ai v0)] [] [(252, some ⟨(0 : Nat), Ty.ints, v1, some (0 : Nat), true⟩)])
def r33_Sorted_s7 (keys : List (List Val)) (v0 : Int) (v1 : List (List Int)) (v2 : Int) : S Un := (st 63 63 254 0 [(0, al .row keys), (3, al .ints (r33_Groups keys)), (4, ao 253), (5, ai v0), (6, ai v2)] [] [(253, some ⟨(0 : Nat), Ty.ints, v1, some (0 : Nat), true⟩)])
noncomputable def r33_Sorted_B4 : Code := sub (bodyOf Tryd.f11) [1, 1, 1, 0, 1, 2, 2]
def r33_Sorted_L4 : S Un → Option (EX Un) := loopF (N_r33_Sorted 4) (fun s Q => awf M_r33_Sorted N_r33_Sorted r33_Sorted_B4 s Q)
noncomputable def r33_Sorted_B7 : Code := sub (sub (bodyOf Tryd.f11) [1, 1, 1, 0, 1, 2, 2]) [1, 0, 2, 1, 0, 2, 2]
def r33_Sorted_L7 : S Un → Option (EX Un) := loopF (N_r33_Sorted 7) (fun s Q => awf M_r33_Sorted N_r33_Sorted r33_Sorted_B7 s Q)
def r33_Sorted_C4 : Exit → S Un → Option (RF Un) := ctxF M_r33_Sorted N_r33_Sorted (bodyOf Tryd.f11) [1, 1, 1, 0, 1, 2] (retF M_r33_Sorted Tryd.f11.results.toList [.d])
def r33_Sorted_C7 : Exit → S Un → Option (EX Un) := ctxF M_r33_Sorted N_r33_Sorted r33_Sorted_B4 [1, 0, 2, 1, 0, 2] (roundF (N_r33_Sorted 4) r33_Sorted_L4)
def r33_Sorted_fn (keys : List (List Val)) : Option (RF Un) := awf M_r33_Sorted N_r33_Sorted (bodyOf Tryd.f11) (entry Tryd.f11.ntmps 2 [.d (.v (.dat (U := Un) Ty.row keys))]) (retF M_r33_Sorted Tryd.f11.results.toList [.d])
theorem r33_Sorted_in (keys : List (List Val)) : r33_Sorted_fn keys =
 obO (keys.length ≤ (2000000 : Nat))
  ((r33_Sorted_L4 (r33_Sorted_s4 keys (0 : Int) ([]))).bind (thenX r33_Sorted_C4)) := by kernel_rfl
theorem r33_Sorted_l4 (keys : List (List Val)) (v0 : Int) (v1 : List (List Int)) : r33_Sorted_L4 (r33_Sorted_s4 keys v0 v1) =
 cndO (decide (v0 < (↑(r33_Groups keys).length : Int)))
  ((r33_Sorted_L7 (r33_Sorted_s7 keys v0 v1 (0 : Int))).bind (thenX r33_Sorted_C7))
  (some (.exit 0, (r33_Sorted_s4 keys v0 v1))) := (loopF_eq (N_r33_Sorted 4) r33_Sorted_B4 _).trans (by kernel_rfl)
theorem r33_Sorted_a4_x0 (keys : List (List Val)) (v0 : Int) (v1 : List (List Int)) : r33_Sorted_C4 (.exit 0) (r33_Sorted_s4 keys v0 v1) =
 some (R_r33_Sorted (v1)) := by kernel_rfl
theorem r33_Sorted_l7 (keys : List (List Val)) (v0 : Int) (v1 : List (List Int)) (v2 : Int) : r33_Sorted_L7 (r33_Sorted_s7 keys v0 v1 v2) =
 cndO (decide (v2 < (↑v1.length : Int)))
  (obO (0 ≤ v2 ∧ v2 < (↑v1.length : Int))
   (obO ((0 : Int) ≤ (0 : Int) ∧ (0 : Int) < (↑(List.length (v1.getD v2.toNat [])) : Int))
    (obO (0 ≤ List.getD (v1.getD v2.toNat []) 0 (0 : Int) ∧ List.getD (v1.getD v2.toNat []) 0 (0 : Int) < (↑keys.length : Int))
     (obO (0 ≤ v0 ∧ v0 < (↑(r33_Groups keys).length : Int))
      (obO ((0 : Int) ≤ (0 : Int) ∧ (0 : Int) < (↑(List.length ((r33_Groups keys).getD v0.toNat [])) : Int))
       (obO (0 ≤ List.getD ((r33_Groups keys).getD v0.toNat []) 0 (0 : Int) ∧ List.getD ((r33_Groups keys).getD v0.toNat []) 0 (0 : Int) < (↑keys.length : Int))
        (cndO (decide (r03_Orders (keys.getD (Int.toNat (List.getD (v1.getD v2.toNat []) 0 (0 : Int))) []) (keys.getD (Int.toNat (List.getD ((r33_Groups keys).getD v0.toNat []) 0 (0 : Int))) []) < 0))
         (r33_Sorted_L7 (r33_Sorted_s7 keys v0 v1 (IntKind.i64.wrap (v2 + 1))))
         (some (.exit 2, (r33_Sorted_s7 keys v0 v1 v2))))))))))
  (some (.exit 2, (r33_Sorted_s7 keys v0 v1 v2))) := (loopF_eq (N_r33_Sorted 7) r33_Sorted_B7 _).trans (by kernel_rfl)
theorem r33_Sorted_a7_x2 (keys : List (List Val)) (v0 : Int) (v1 : List (List Int)) (v2 : Int) : r33_Sorted_C7 (.exit 2) (r33_Sorted_s7 keys v0 v1 v2) =
 obO (0 ≤ v2 ∧ v2 ≤ (↑v1.length : Int))
  (obO ((0 + (List.take v2.toNat v1).length) * (24 : Nat) ≤ roomB)
   (obO (0 ≤ v0 ∧ v0 < (↑(r33_Groups keys).length : Int))
    (obO (((List.take v2.toNat v1).length + [(r33_Groups keys).getD v0.toNat []].length) * (24 : Nat) ≤ roomB)
     (obO (0 ≤ v2 ∧ v2 ≤ (↑v1.length : Int))
      (obO (((List.take v2.toNat v1 ++ [(r33_Groups keys).getD v0.toNat []]).length + (List.drop v2.toNat v1).length) * (24 : Nat) ≤ roomB)
       (r33_Sorted_L4 (r33_Sorted_s4 keys (IntKind.i64.wrap (v0 + 1)) (List.take v2.toNat v1 ++ [(r33_Groups keys).getD v0.toNat []] ++ List.drop v2.toNat v1)))))))) := by kernel_rfl
def ltG (keys : List (List Val)) (g y : List Int) : Bool := decide (ordR (keyAt keys (y.headD 0)) (keyAt keys (g.headD 0)) < 0)
def insG (keys : List (List Val)) (out : List (List Int)) (g : List Int) : List (List Int) := (out.takeWhile (ltG keys g)) ++ g :: out.dropWhile (ltG keys g)
def r33_Sorted (keys : List (List Val)) : List (List Int) := (r33_Groups keys).foldl (insG keys) []
theorem insG_len (keys : List (List Val)) (out : List (List Int)) (g : List Int) : (insG keys out g).length = out.length + 1 := by
  have e : (out.takeWhile (ltG keys g)) ++ (out.dropWhile (ltG keys g)) = out := List.takeWhile_append_dropWhile
  have e2 := congrArg List.length e
  unfold insG
  rw [List.length_append, List.length_cons]
  rw [List.length_append] at e2
  omega
theorem insG_mem (keys : List (List Val)) (out : List (List Int)) (g y : List Int) : y ∈ insG keys out g ↔ y = g ∨ y ∈ out := by
  have e : (out.takeWhile (ltG keys g)) ++ (out.dropWhile (ltG keys g)) = out := List.takeWhile_append_dropWhile
  unfold insG
  rw [List.mem_append, List.mem_cons]
  conv => rhs; rw [← e]
  rw [List.mem_append]
  constructor
  · rintro (h | h | h)
    · exact .inr (.inl h)
    · exact .inl h
    · exact .inr (.inr h)
  · rintro (h | h | h)
    · exact .inr (.inl h)
    · exact .inl h
    · exact .inr (.inr h)
theorem grp_mem (keys : List (List Val)) {y : List Int} (h : y ∈ r33_Groups keys) : 0 < y.length ∧ y.length ≤ keys.length ∧ 0 ≤ y.headD 0 ∧ y.headD 0 < (keys.length : Int) := by
  have hG := gRun_ok (keyAt keys) keys.length
  obtain ⟨k, hk, rfl⟩ := List.mem_iff_getElem.1 h
  have e : (r33_Groups keys).getD k [] = (r33_Groups keys)[k] := by rw [List.getD_eq_getElem?_getD, List.getElem?_eq_getElem hk]; rfl
  have hne := hG.ne k hk
  have hl := GI.len _ hG k
  have hm := hG.mem k
  change (r33_Groups keys).getD k [] ≠ [] at hne
  change ((r33_Groups keys).getD k []).length ≤ _ at hl
  change ∀ p, p ∈ (r33_Groups keys).getD k [] → _ at hm
  rw [e] at hne hl hm
  have hhd : (r33_Groups keys)[k].headD 0 ∈ (r33_Groups keys)[k] := by
    cases hc : (r33_Groups keys)[k] with
    | nil => exact (hne hc).elim
    | cons a r => exact List.mem_cons_self
  obtain ⟨m1, m2, _⟩ := hm _ hhd
  exact ⟨List.length_pos_iff.2 hne, hl, m1, m2⟩
theorem r33_Sorted_spec (keys : List (List Val)) (_hl : WL .row keys) (h : keys.length ≤ 2000000) : r33_Sorted_fn keys = some (R_r33_Sorted (r33_Sorted keys)) := by
  have hgl : (r33_Groups keys).length ≤ keys.length := gRun_len (keyAt keys) keys.length
  have hm : ∀ y ∈ r33_Groups keys, _ := fun y hy => grp_mem keys hy
  have hrow : ∀ y, y ∈ r33_Groups keys → keys.getD (y.headD 0).toNat [] = keyAt keys (y.headD 0) := fun _ _ => rfl
  obtain ⟨G, hout⟩ : ∃ G, G = r33_Groups keys := ⟨_, rfl⟩
  rw [← hout] at hgl hm
  have inner : ∀ (i : Nat) (g : List Int) (out : List (List Int)), i < G.length → G.getD i [] = g → out.length ≤ 2000000 → (∀ y ∈ out, y ∈ G) → ∀ (r : List (List Int)) (j : Nat), out.drop j = r → j ≤ out.length →
      r33_Sorted_L7 (r33_Sorted_s7 keys (i : Int) out (j : Int)) = some (.exit 2, r33_Sorted_s7 keys (i : Int) out ((j + (r.takeWhile (ltG keys g)).length : Nat) : Int)) := by
    intro i g out hi hg hol hsub r
    have hgm : g ∈ G := by rw [← hg, List.getD_eq_getElem?_getD, List.getElem?_eq_getElem hi]; exact List.getElem_mem _
    obtain ⟨g1, g2, g3, g4⟩ := hm g hgm
    induction r with
    | nil =>
      intro j e1 hj
      have n1 : out.length ≤ j := List.drop_eq_nil_iff.1 e1
      rw [r33_Sorted_l7, cndO_eq, if_neg (by rw [decide_eq_true_eq]; omega)]
      rfl
    | cons y r ih =>
      intro j e1 hj
      obtain ⟨a1, a2, a3, a4⟩ := drop_cons e1
      have a2' : out.getD j [] = y := a2 _
      have hym : y ∈ out := by rw [← a2', List.getD_eq_getElem?_getD, List.getElem?_eq_getElem a1]; exact List.getElem_mem _
      obtain ⟨y1, y2, y3, y4⟩ := hm y (hsub y hym)
      rw [r33_Sorted_l7]
      simp only [← hout, cndO_eq, Int.toNat_natCast, a2', hg, getD_headD, r03_Orders_eq, decide_eq_true_eq]
      rw [if_pos (by omega), obO_pos (by omega), obO_pos (by omega), obO_pos ⟨y3, y4⟩, obO_pos (by omega), obO_pos (by omega), obO_pos ⟨g3, g4⟩]
      by_cases hc : ordR (keyAt keys (y.headD 0)) (keyAt keys (g.headD 0)) < 0
      · have hc' : ltG keys g y = true := by unfold ltG; exact decide_eq_true hc
        have hc2 : ordR (keys.getD (y.headD 0).toNat []) (keys.getD (g.headD 0).toNat []) < 0 := hc
        rw [if_pos hc2, wrap_id (by omega), show ((j : Int) + 1) = ((j + 1 : Nat) : Int) by omega, ih (j + 1) a3 (by omega), List.takeWhile_cons, if_pos hc', List.length_cons]
        congr 4; omega
      · have hc' : ltG keys g y = false := by unfold ltG; exact decide_eq_false hc
        have hc2 : ¬ ordR (keys.getD (y.headD 0).toNat []) (keys.getD (g.headD 0).toNat []) < 0 := hc
        rw [if_neg hc2, List.takeWhile_cons, if_neg (by rw [hc']; simp)]
        rfl
  obtain ⟨lp, _⟩ := loop_fold (e := .exit 0) (L := r33_Sorted_L4) (st := fun (s : List (List Int)) i => r33_Sorted_s4 keys i s) (l := G) (d := []) (g := insG keys) (fun i s => s.length = i ∧ ∀ y ∈ s, y ∈ G) (by omega)
    (fun s i x hi hx hI => by
      obtain ⟨hI1, hI2⟩ := hI
      have hi' : i < G.length := by omega
      have hxm : x ∈ G := by rw [← hx, List.getD_eq_getElem?_getD, List.getElem?_eq_getElem hi']; exact List.getElem_mem _
      refine ⟨⟨by rw [insG_len, hI1], fun y hy => ?_⟩, ?_⟩
      · rcases (insG_mem keys s x y).1 hy with rfl | hy
        · exact hxm
        · exact hI2 y hy
      have hin := inner i x s hi' hx (by omega) hI2 s 0 (List.drop_zero) (Nat.zero_le _)
      rw [Nat.zero_add] at hin
      have e : (s.takeWhile (ltG keys x)) ++ (s.dropWhile (ltG keys x)) = s := List.takeWhile_append_dropWhile
      have e2 := congrArg List.length e
      rw [List.length_append] at e2
      have et : s.take (s.takeWhile (ltG keys x)).length = s.takeWhile (ltG keys x) := by
        conv => lhs; rw [← e]
        rw [List.take_append_of_le_length (by simp), List.take_of_length_le (by simp)]
      have ed : s.drop (s.takeWhile (ltG keys x)).length = s.dropWhile (ltG keys x) := by
        have h9 := List.drop_left (l₁ := s.takeWhile (ltG keys x)) (l₂ := s.dropWhile (ltG keys x))
        rw [e] at h9
        exact h9
      rw [r33_Sorted_l4]
      simp only [← hout, cndO_eq, hi, decide_true, if_true]
      refine (loop_end hin).trans ?_
      rw [r33_Sorted_a7_x2]
      simp only [← hout, Int.toNat_natCast, hx]
      rw [obO_pos (by omega), obO_pos (by unfold roomB; rw [et]; omega), obO_pos (by omega), obO_pos (by unfold roomB; rw [et, List.length_singleton]; omega), obO_pos (by omega), obO_pos (by unfold roomB; rw [et, ed, List.length_append, List.length_singleton]; omega), et, ed]
      unfold insG
      rw [List.append_assoc]; rfl)
    (fun s _ => by rw [r33_Sorted_l4, ← hout]; simp [cndO_eq]) [] ⟨rfl, fun y hy => by simp at hy⟩
  rw [r33_Sorted_in, obO_pos h]
  refine (loop_end lp).trans ?_
  rw [r33_Sorted_a4_x0, hout]
  rfl
def F_r33_Sorted : FnC Un := fun args => match args with
  | [x0] => (dL .row x0).bind fun keys => some ([keys.length ≤ 2000000], A_r33_Sorted (r33_Sorted keys), O_r33_Sorted (r33_Sorted keys))
  | _ => none
theorem ok_r33_Sorted : FnOK 11 F_r33_Sorted := by
  intro args ob rs os h hob
  unfold F_r33_Sorted at h
  split at h
  · simp only [Option.bind_eq_some_iff, Option.some.injEq, Prod.mk.injEq] at h
    obtain ⟨keys, e0, rfl, rfl, rfl⟩ := h
    obtain rfl := dL_eq e0
    exact ⟨fn_contractF (M := M_r33_Sorted) rfl (tbl_ok (l1 := [(9, F_r33_Groups), (19, F_r03_Orders)]) (l2 := []) (l3 := []) (l4 := []) (l5 := []) ⟨ok_r33_Groups, ok_r03_Orders, trivial⟩ trivial trivial trivial trivial) Tryd.func11 (by kernel_rfl) N_r33_Sorted 2 [.d] (fun hwf => (r33_Sorted_spec keys (wfArg hwf (a := .d (.v (.dat (U := Un) Ty.row keys))) (List.mem_of_getElem? (i := 0) rfl)) (hob _ (List.mem_of_getElem? (i := 0) rfl)))), hasBody_of Tryd.func11 (by kernel_rfl) (by kernel_rfl)⟩
  · simp at h
end
end Go.Proofs.YtfdnnfbbjiglcaaDoor.B
namespace Go.Proofs.YtfdnnfbbjiglcaaDoor.B
open Go Go.RowKit
set_option linter.unusedVariables false
noncomputable section
theorem perm_srt_eq {α : Type} {le : α → α → Bool} : ∀ {l r : List α}, l.Perm r → l.Pairwise (fun a b => le a b = true) → r.Pairwise (fun a b => le a b = true) → (∀ a b, a ∈ l → b ∈ l → le a b = true → le b a = true → a = b) → l = r
  | [], r, hp, _, _, _ => (List.nil_perm.1 hp).symm
  | a :: l, [], hp, _, _, _ => by have := hp.length_eq; simp at this
  | a :: l, b :: r, hp, h1, h2, h3 => by
    obtain ⟨a1, a2⟩ := List.pairwise_cons.1 h1
    obtain ⟨b1, b2⟩ := List.pairwise_cons.1 h2
    have e : a = b := by
      have ha : a ∈ b :: r := hp.subset List.mem_cons_self
      have hb : b ∈ a :: l := hp.symm.subset List.mem_cons_self
      rcases List.mem_cons.1 ha with e | ha
      · exact e
      · rcases List.mem_cons.1 hb with e | hb
        · exact e.symm
        · exact h3 a b List.mem_cons_self (List.mem_cons_of_mem _ hb) (a1 b hb) (b1 a ha)
    subst e
    rw [perm_srt_eq (List.perm_cons a |>.1 hp) a2 b2 fun x y hx hy => h3 x y (List.mem_cons_of_mem _ hx) (List.mem_cons_of_mem _ hy)]
theorem leG_iff {keys : List (List Val)} {a b : List Int} : leG keys a b = true ↔ ¬ ordR (hkG keys b) (hkG keys a) < 0 := by unfold leG; simp
theorem leG_trans (keys : List (List Val)) (a b c : List Int) (h1 : leG keys a b = true) (h2 : leG keys b c = true) : leG keys a c = true := by
  rw [leG_iff] at *
  have := ordR_swo.ntrans (hkG keys c) (hkG keys b) (hkG keys a) (by simpa using h2) (by simpa using h1)
  simpa using this
theorem leG_total (keys : List (List Val)) (a b : List Int) : leG keys a b = true ∨ leG keys b a = true := by
  rw [leG_iff, leG_iff]
  have := ordR_anti (hkG keys a) (hkG keys b)
  omega
theorem leG_anti (keys : List (List Val)) {a b : List Int} (ha : a ∈ r33_Groups keys) (hb : b ∈ r33_Groups keys) (h1 : leG keys a b = true) (h2 : leG keys b a = true) : a = b := by
  rw [leG_iff] at *
  have h := ordR_anti (hkG keys a) (hkG keys b)
  have e : hkG keys a = hkG keys b := ordR_zero.1 (by omega)
  obtain ⟨j, hj, rfl⟩ := List.mem_iff_getElem.1 ha
  obtain ⟨k, hk, rfl⟩ := List.mem_iff_getElem.1 hb
  have hG := gRun_ok (keyAt keys) keys.length
  have g1 : (r33_Groups keys).getD j [] = (r33_Groups keys)[j] := by rw [List.getD_eq_getElem?_getD, List.getElem?_eq_getElem hj]; rfl
  have g2 : (r33_Groups keys).getD k [] = (r33_Groups keys)[k] := by rw [List.getD_eq_getElem?_getD, List.getElem?_eq_getElem hk]; rfl
  have := hG.dis j k hj hk (by
    show keyAt keys (((r33_Groups keys).getD j []).headD 0) = keyAt keys (((r33_Groups keys).getD k []).headD 0)
    rw [g1, g2]; exact e)
  subst this; rfl
theorem ltG_le {keys : List (List Val)} {g y : List Int} (h : ltG keys g y = true) : leG keys y g = true := by
  unfold ltG at h
  rw [decide_eq_true_eq] at h
  rw [leG_iff]
  have := ordR_anti (hkG keys y) (hkG keys g)
  have h' : ordR (hkG keys y) (hkG keys g) < 0 := h
  omega
theorem insG_perm (keys : List (List Val)) (out : List (List Int)) (g : List Int) : (insG keys out g).Perm (g :: out) := by
  have e : (out.takeWhile (ltG keys g)) ++ (out.dropWhile (ltG keys g)) = out := List.takeWhile_append_dropWhile
  unfold insG
  refine List.perm_middle.trans ?_
  rw [e]
theorem insG_srt (keys : List (List Val)) (g : List Int) {out : List (List Int)} (hs : out.Pairwise fun a b => leG keys a b = true) : (insG keys out g).Pairwise fun a b => leG keys a b = true := by
  have e : (out.takeWhile (ltG keys g)) ++ (out.dropWhile (ltG keys g)) = out := List.takeWhile_append_dropWhile
  have hs' := hs
  rw [← e] at hs'
  obtain ⟨t1, t2, t3⟩ := List.pairwise_append.1 hs'
  have hd : ∀ y ∈ out.dropWhile (ltG keys g), leG keys g y = true := by
    intro y hy
    cases hc : out.dropWhile (ltG keys g) with
    | nil => rw [hc] at hy; simp at hy
    | cons z r =>
      have hz : ltG keys g z = false := by
        have := List.head?_dropWhile_not (ltG keys g) out
        rw [hc] at this
        simpa using this
      have hgz : leG keys g z = true := by
        rw [leG_iff]
        unfold ltG at hz
        exact of_decide_eq_false hz
      rw [hc] at hy t2
      rcases List.mem_cons.1 hy with rfl | hy
      · exact hgz
      · exact leG_trans keys g z y hgz ((List.pairwise_cons.1 t2).1 y hy)
  unfold insG
  refine List.pairwise_append.2 ⟨t1, List.pairwise_cons.2 ⟨hd, t2⟩, fun a ha b hb => ?_⟩
  have hag : leG keys a g = true := by
    have := List.all_takeWhile (p := ltG keys g) (l := out)
    exact ltG_le (List.all_eq_true.1 this a ha)
  rcases List.mem_cons.1 hb with rfl | hb
  · exact hag
  · exact t3 a ha b hb
theorem ins_all (keys : List (List Val)) : ∀ (l out : List (List Int)), (out.Pairwise fun a b => leG keys a b = true) → ((l.foldl (insG keys) out).Pairwise fun a b => leG keys a b = true) ∧ (l.foldl (insG keys) out).Perm (l ++ out)
  | [], out, h => ⟨h, List.Perm.refl _⟩
  | g :: l, out, h => by
    obtain ⟨h1, h2⟩ := ins_all keys l (insG keys out g) (insG_srt keys g h)
    refine ⟨h1, h2.trans ?_⟩
    refine ((insG_perm keys out g).append_left l).trans ?_
    exact List.perm_middle
theorem g_Sorted_srt (keys : List (List Val)) : (g_Sorted keys).Pairwise fun a b => leG keys a b = true := by
  unfold g_Sorted
  exact List.pairwise_mergeSort (fun a b c h1 h2 => leG_trans keys a b c h1 h2) (fun a b => by rcases leG_total keys a b with h | h <;> simp [h]) _
theorem g_Sorted_perm (keys : List (List Val)) : (g_Sorted keys).Perm (r33_Groups keys) := List.mergeSort_perm _ _
theorem g_Sorted_eq (keys : List (List Val)) : g_Sorted keys = r33_Sorted keys := by
  obtain ⟨h1, h2⟩ := ins_all keys (r33_Groups keys) [] List.Pairwise.nil
  rw [List.append_nil] at h2
  refine perm_srt_eq ((g_Sorted_perm keys).trans h2.symm) (g_Sorted_srt keys) h1 fun a b ha hb => ?_
  exact leG_anti keys ((g_Sorted_perm keys).subset ha) ((g_Sorted_perm keys).subset hb)
theorem valT_len {v : Val} (h : WS .val v) : (valT v).length ≤ 66 + v.s.size := by
  obtain ⟨h1, h2, h3⟩ := (WS_val v).1 h
  have e1 := Lib.itoa_length_le v.kind (by have := h1; unfold WI at this; omega) (by have := h1; unfold WI at this; omega)
  have e2 := Lib.itoa_length_le v.n (by have := h2; unfold WI at this; omega) (by have := h2; unfold WI at this; omega)
  have e3 := Lib.itoa_length_le (v.s.size : Int) (by omega) (by have := h3; unfold WStr at this; omega)
  have e4 : v.s.data.toList.length = v.s.size := rfl
  unfold valT
  simp only [List.length_append, List.length_cons]
  omega
def exK : List (List Val) := [[⟨2, 5, ⟨#[]⟩⟩], [zeroVal], [⟨2, 5, ⟨#[]⟩⟩], [zeroVal], [⟨2, 1, ⟨#[]⟩⟩]]
theorem exK_ok : keysOK exK := by
  have h0 : WS .val (⟨2, 5, ⟨#[]⟩⟩ : Val) := (WS_val _).2 ⟨by unfold WI; decide, by unfold WI; decide, by unfold WStr; decide⟩
  have h1 : WS .val (⟨2, 1, ⟨#[]⟩⟩ : Val) := (WS_val _).2 ⟨by unfold WI; decide, by unfold WI; decide, by unfold WStr; decide⟩
  have h2 : WS .val zeroVal := (WS_val _).2 ⟨by unfold WI; decide, by unfold WI; decide, by unfold WStr; decide⟩
  have key : ∀ v, WS .val v → v.s.size = 0 → [v].length ≤ 1000000000 ∧ (keyT [v]).length ≤ 1000000000000 := fun v h hs => by
    have := valT_len h
    refine ⟨by simp, ?_⟩
    rw [keyT, keyT, List.append_nil]; omega
  intro r hr
  simp only [exK, List.mem_cons, List.not_mem_nil, or_false] at hr
  rcases hr with rfl | rfl | rfl | rfl | rfl
  · exact key _ h0 rfl
  · exact key _ h2 rfl
  · exact key _ h0 rfl
  · exact key _ h2 rfl
  · exact key _ h1 rfl
theorem exGroups : r33_Groups exK = [[0, 2], [1, 3], [4]] := by
  have k0 : keyAt exK 0 = [⟨2, 5, ⟨#[]⟩⟩] := rfl
  have k1 : keyAt exK 1 = [zeroVal] := rfl
  have k2 : keyAt exK 2 = [⟨2, 5, ⟨#[]⟩⟩] := rfl
  have k3 : keyAt exK 3 = [zeroVal] := rfl
  have k4 : keyAt exK 4 = [⟨2, 1, ⟨#[]⟩⟩] := rfl
  have hl : exK.length = 5 := rfl
  unfold r33_Groups gRun
  rw [hl]
  simp [List.range_succ, gStep, gAdd, gAt, List.findIdx_cons, k0, k1, k2, k3, k4, zeroVal]
theorem exSorted : r33_Sorted exK = [[1, 3], [4], [0, 2]] := by
  unfold r33_Sorted
  rw [exGroups]
  have k0 : keyAt exK 0 = [⟨2, 5, ⟨#[]⟩⟩] := rfl
  have k1 : keyAt exK 1 = [⟨0, 0, ⟨#[]⟩⟩] := rfl
  have k4 : keyAt exK 4 = [⟨2, 1, ⟨#[]⟩⟩] := rfl
  simp [insG, ltG, k0, k1, k4, ordR, ordV, cmpI, cmpS, cmpL]
end
end Go.Proofs.YtfdnnfbbjiglcaaDoor.B
namespace Go.Proofs.YtfdnnfbbjiglcaaDoor.B
open Go Go.RowKit
set_option linter.unusedVariables false
theorem BK.strI {s : ByteArray} {n : Nat} (h : BK (cs s) n) : s.size ≤ n := by
  cases h with
  | s _ _ h => exact h s rfl
theorem BKS.consI {v : V Un} {vs : List (V Un)} {n : Nat} (h : BKS (v :: vs) n) : ∃ a b, BK v a ∧ BKS vs b ∧ a + b ≤ n := by
  cases h with
  | cons _ _ a b _ h1 h2 hn => exact ⟨a, b, h1, h2, hn⟩
theorem BKL.consI {τ : Ty} {x : Den τ} {xs : List (Den τ)} {n : Nat} (h : BKL τ (x :: xs) n) : ∃ a b, BKS (enc τ x) a ∧ BKL τ xs b ∧ a + 1 + b ≤ n := by
  cases h with
  | cons _ _ _ a b _ h1 h2 hn => exact ⟨a, b, h1, h2, hn⟩
theorem BK.datI {τ : Ty} {xs : List (Den τ)} {n : Nat} (h : BK (.dat (U := Un) τ xs) n) : BKL τ xs n := by
  cases h with
  | dat _ _ _ h => exact h
theorem bkKey : ∀ (r : List Val) (n : Nat), BKL .val r n → WL .val r → r.length ≤ n ∧ (keyT r).length ≤ 70 * n
  | [], n, _, _ => ⟨Nat.zero_le _, by simp [keyT]⟩
  | x :: r, n, h, hw => by
    obtain ⟨a, b, h1, h2, hn⟩ := h.consI
    obtain ⟨i1, i2⟩ := bkKey r b h2 (hw.sub (by simp) fun y hy => List.mem_cons_of_mem _ hy)
    have hv := valT_len (hw.get List.mem_cons_self)
    obtain ⟨_, _, _, h1, q2⟩ := h1.consI
    obtain ⟨_, _, _, h1, q3⟩ := h1.consI
    obtain ⟨_, _, k0, _, q4⟩ := h1.consI
    have e0 : x.s.size ≤ _ := k0.strI
    refine ⟨by rw [List.length_cons]; omega, ?_⟩
    rw [keyT, List.length_append]
    omega
theorem bkKeys : ∀ (l : List (List Val)) (n : Nat), BKL .row l n → WL .row l → n ≤ 2000000 → l.length ≤ n ∧ ∀ r ∈ l, r.length ≤ 2000000 ∧ (keyT r).length ≤ 140000000
  | [], n, _, _, _ => ⟨Nat.zero_le _, by simp⟩
  | x :: l, n, h, hw, hm => by
    obtain ⟨a, b, h1, h2, hn⟩ := h.consI
    obtain ⟨i1, i2⟩ := bkKeys l b h2 (hw.sub (by simp) fun y hy => List.mem_cons_of_mem _ hy) (by omega)
    obtain ⟨_, _, k0, _, q2⟩ := h1.consI
    obtain ⟨j1, j2⟩ := bkKey x _ k0.datI ((WS_row x).1 (hw.get List.mem_cons_self))
    refine ⟨by rw [List.length_cons]; omega, fun r hr => ?_⟩
    rcases List.mem_cons.1 hr with rfl | hr
    · exact ⟨by omega, by omega⟩
    · exact i2 r hr
end Go.Proofs.YtfdnnfbbjiglcaaDoor.B
namespace Go.Proofs.YtfdnnfbbjiglcaaDoor.B
open Go Go.RowKit
set_option maxRecDepth 100000
noncomputable section
attribute [local irreducible] awp ctxK itersK iterK retQ retGQ awf ctxF loopF
def M_value_Num : Mc Un := mach (tbl []) (tbl []) (tbl []) (tbl []) (tbl [])
def A_value_Num (r : Val) : List (A Un) := [.agg (encC Ty.val r)]
def O_value_Num (_r : Val) : List (Ob Un) := []
def R_value_Num (r : Val) : RF Un := (A_value_Num r, O_value_Num r)
def N_value_Num : Nat → NS := fun l => (look l []).getD ⟨[], [], [], [], [], false⟩
def value_Num_fn (n : Int) : Option (RF Un) := awf M_value_Num N_value_Num (bodyOf Tryd.f17) (entry Tryd.f17.ntmps 0 [.d (.v (.s (.int .i64 n)))]) (retF M_value_Num Tryd.f17.results.toList [.d])
theorem value_Num_in (n : Int) : value_Num_fn n =
 some (R_value_Num ({ kind := (2 : Int), n := n, s := (ByteArray.mk #[]) })) := by kernel_rfl
def value_Num (n : Int) : Val :=
  ({ kind := (2 : Int), n := n, s := (ByteArray.mk #[]) })
theorem value_Num_eq (n : Int) : value_Num_fn n = some (R_value_Num (value_Num n)) := by rw [value_Num_in]; unfold value_Num; simp only [cndO_eq]; repeat (first | rfl | split)
def F_value_Num : FnC Un := fun args => match args with
  | [x0] => (dI .i64 x0).bind fun n => some ([], A_value_Num (value_Num n), O_value_Num (value_Num n))
  | _ => none
theorem ok_value_Num : FnOK 17 F_value_Num := by
  intro args ob rs os h hob
  unfold F_value_Num at h
  split at h
  · simp only [Option.bind_eq_some_iff, Option.some.injEq, Prod.mk.injEq] at h
    obtain ⟨n, e0, rfl, rfl, rfl⟩ := h
    obtain rfl := dI_eq e0
    exact ⟨fn_contractF (M := M_value_Num) rfl (tbl_ok (l1 := []) (l2 := []) (l3 := []) (l4 := []) (l5 := []) trivial trivial trivial trivial trivial) Tryd.func17 (by kernel_rfl) N_value_Num 0 [.d] (fun hwf => (value_Num_eq n)), hasBody_of Tryd.func17 (by kernel_rfl) (by kernel_rfl)⟩
  · simp at h
end
end Go.Proofs.YtfdnnfbbjiglcaaDoor.B
namespace Go.Proofs.YtfdnnfbbjiglcaaDoor.B
open Go Go.RowKit
set_option maxRecDepth 100000
noncomputable section
attribute [local irreducible] awp ctxK itersK iterK retQ retGQ awf ctxF loopF
noncomputable def deq {α : Type} (a b : α) : Bool := @decide (a = b) (Classical.propDecidable _)
theorem deq_iff {α : Type} {a b : α} : deq a b = true ↔ a = b := by unfold deq; exact @decide_eq_true_iff _ (Classical.propDecidable _)
theorem deq_of {α : Type} {a b : α} {x : Bool} (h : x = true ↔ a = b) : x = deq a b := by
  rw [Bool.eq_iff_iff, h, deq_iff]
theorem loop_pre {α β : Type} {L : S Un → Option (EX Un)} {st : Int → S Un} {C : Exit → S Un → Option β} (R : Bool → Option β) {a b : List α} {d : α} {e : Exit} (hl : a.length ≤ 9223372036854775807)
    (step : ∀ i : Nat, i < a.length → i < b.length → L (st i) = if deq (a.getD i d) (b.getD i d) = true then L (st (IntKind.i64.wrap ((i : Int) + 1))) else some (.ret, st i))
    (stop : ∀ i : Nat, ¬ (i < a.length ∧ i < b.length) → L (st i) = some (e, st i)) (cr : ∀ i : Nat, C .ret (st i) = R false) (ce : ∀ i : Nat, C e (st i) = R ((a.length : Int) == (b.length : Int))) : (L (st (0 : Int))).bind (thenX C) = R (deq a b) := by
  have key : ∀ (k i : Nat), i + k = a.length → i ≤ b.length → (L (st i)).bind (thenX C) = R (deq (a.drop i) (b.drop i)) := by
    intro k
    induction k with
    | zero =>
      intro i hi hb
      obtain rfl : i = a.length := by omega
      rw [loop_end (stop _ (by omega)), ce]
      congr 1
      refine deq_of ?_
      rw [List.drop_length, beq_iff_eq]
      constructor
      · intro h; rw [List.drop_eq_nil_of_le (by omega)]
      · intro h
        have := congrArg List.length h
        rw [List.length_drop, List.length_nil] at this; omega
    | succ k ih =>
      intro i hi hb
      have h1 : i < a.length := by omega
      by_cases h2 : i < b.length
      · have ga : a.getD i d = a[i] := by rw [List.getD_eq_getElem?_getD, List.getElem?_eq_getElem h1]; rfl
        have gb : b.getD i d = b[i] := by rw [List.getD_eq_getElem?_getD, List.getElem?_eq_getElem h2]; rfl
        have hs := step i h1 h2
        rw [ga, gb] at hs
        rw [List.drop_eq_getElem_cons h1, List.drop_eq_getElem_cons h2]
        by_cases hq : deq a[i] b[i] = true
        · rw [if_pos hq, wrap_next h1 hl] at hs
          rw [hs, ih (i + 1) (by omega) (by omega)]
          rw [deq_iff] at hq
          congr 1
          refine deq_of ?_
          rw [deq_iff, hq]
          exact ⟨fun h => by rw [h], fun h => (List.cons.inj h).2⟩
        · rw [if_neg hq] at hs
          rw [loop_end hs, cr]
          congr 1
          refine deq_of ?_
          rw [deq_iff] at hq
          exact ⟨fun h => absurd h (by decide), fun h => absurd (List.cons.inj h).1 hq⟩
      · rw [loop_end (stop _ (by omega)), ce]
        congr 1
        refine deq_of ?_
        rw [beq_iff_eq]
        constructor
        · intro h; omega
        · intro h
          have := congrArg List.length h
          rw [List.length_drop, List.length_drop] at this; omega
  exact key a.length 0 (by omega) (by omega)
theorem ord_deq (x y : List Val) : (r03_Orders x y != 0) = !deq x y := by
  rw [Bool.eq_iff_iff, bne_iff_ne, Bool.not_eq_true', ← Bool.not_eq_true, deq_iff, r03_Orders_eq, ne_eq, ordR_zero]
end
end Go.Proofs.YtfdnnfbbjiglcaaDoor.B
namespace Go.Proofs.YtfdnnfbbjiglcaaDoor.B
open Go Go.RowKit
set_option maxRecDepth 100000
noncomputable section
attribute [local irreducible] awp ctxK itersK iterK retQ retGQ awf ctxF loopF
def M_r03_List : Mc Un := mach (tbl [(19, F_r03_Orders)]) (tbl []) (tbl []) (tbl []) (tbl [])
def A_r03_List (r : Bool) : List (A Un) := [.c (.s (.bool r))]
def O_r03_List (_r : Bool) : List (Ob Un) := []
def R_r03_List (r : Bool) : RF Un := (A_r03_List r, O_r03_List r)
def N_r03_List : Nat → NS := fun l => (look l [(2, { ts := bl 33 51, bs := bl 33 0, nm := [], cs := true })]).getD ⟨[], [], [], [], [], true⟩
def r03_List_s2 (a : List (List Val)) (b : List (List Val)) (v0 : Int) : S Un := (st 33 33 132 0 [(0, al .row a), (1, al .row b), (4, ab false), (5, ai v0)] [] [])
noncomputable def r03_List_B2 : Code := sub (bodyOf Tryd.f12) [1, 0, 1, 2, 2]
def r03_List_L2 : S Un → Option (EX Un) := loopF (N_r03_List 2) (fun s Q => awf M_r03_List N_r03_List r03_List_B2 s Q)
def r03_List_C2 : Exit → S Un → Option (RF Un) := ctxF M_r03_List N_r03_List (bodyOf Tryd.f12) [1, 0, 1, 2] (retF M_r03_List Tryd.f12.results.toList [.d])
def r03_List_fn (a : List (List Val)) (b : List (List Val)) : Option (RF Un) := awf M_r03_List N_r03_List (bodyOf Tryd.f12) (entry Tryd.f12.ntmps 0 [.d (.v (.dat (U := Un) Ty.row a)), .d (.v (.dat (U := Un) Ty.row b))]) (retF M_r03_List Tryd.f12.results.toList [.d])
theorem r03_List_in (a : List (List Val)) (b : List (List Val)) : r03_List_fn a b =
 (r03_List_L2 (r03_List_s2 a b (0 : Int))).bind (thenX r03_List_C2) := by kernel_rfl
theorem r03_List_l2 (a : List (List Val)) (b : List (List Val)) (v0 : Int) : r03_List_L2 (r03_List_s2 a b v0) =
 cndO (decide (v0 < (↑a.length : Int)))
  (cndO (decide (v0 < (↑b.length : Int)))
   (obO (0 ≤ v0 ∧ v0 < (↑a.length : Int))
    (obO (0 ≤ v0 ∧ v0 < (↑b.length : Int))
     (cndO (r03_Orders (a.getD v0.toNat []) (b.getD v0.toNat []) != 0)
      (some (.ret, (r03_List_s2 a b v0)))
      (r03_List_L2 (r03_List_s2 a b (IntKind.i64.wrap (v0 + 1)))))))
   (some (.exit 0, (r03_List_s2 a b v0))))
  (some (.exit 0, (r03_List_s2 a b v0))) := (loopF_eq (N_r03_List 2) r03_List_B2 _).trans (by kernel_rfl)
theorem r03_List_a2_ret (a : List (List Val)) (b : List (List Val)) (v0 : Int) : r03_List_C2 .ret (r03_List_s2 a b v0) =
 some (R_r03_List (false)) := by kernel_rfl
theorem r03_List_a2_x0 (a : List (List Val)) (b : List (List Val)) (v0 : Int) : r03_List_C2 (.exit 0) (r03_List_s2 a b v0) =
 some (R_r03_List ((↑a.length : Int) == (↑b.length : Int))) := by kernel_rfl
noncomputable def r03_List (a b : List (List Val)) : Bool := deq a b
theorem r03_List_spec (a b : List (List Val)) (ha : WL .row a) (_hb : WL .row b) : r03_List_fn a b = some (R_r03_List (r03_List a b)) := by
  rw [r03_List_in]
  exact loop_pre (L := r03_List_L2) (st := fun i => r03_List_s2 a b i) (fun r => some (R_r03_List r)) (d := []) ha.len
    (fun i hi hj => by
      rw [r03_List_l2, ord_deq]
      simp only [cndO_eq, Int.toNat_natCast]
      rw [if_pos (by simp; omega), if_pos (by simp; omega), obO_pos (by omega), obO_pos (by omega)]
      cases deq (a.getD i []) (b.getD i []) <;> simp)
    (fun i h => by
      rw [r03_List_l2]
      simp only [cndO_eq, decide_eq_true_eq]
      by_cases h1 : (i : Int) < (a.length : Int)
      · rw [if_pos h1, if_neg (by omega)]
      · rw [if_neg h1])
    (fun i => r03_List_a2_ret _ _ _) (fun i => r03_List_a2_x0 _ _ _)
def F_r03_List : FnC Un := fun args => match args with
  | [x0, x1] => (dL .row x0).bind fun a => (dL .row x1).bind fun b => some ([], A_r03_List (r03_List a b), O_r03_List (r03_List a b))
  | _ => none
theorem ok_r03_List : FnOK 12 F_r03_List := by
  intro args ob rs os h hob
  unfold F_r03_List at h
  split at h
  · simp only [Option.bind_eq_some_iff, Option.some.injEq, Prod.mk.injEq] at h
    obtain ⟨a, e0, b, e1, rfl, rfl, rfl⟩ := h
    obtain rfl := dL_eq e0
    obtain rfl := dL_eq e1
    exact ⟨fn_contractF (M := M_r03_List) rfl (tbl_ok (l1 := [(19, F_r03_Orders)]) (l2 := []) (l3 := []) (l4 := []) (l5 := []) ⟨ok_r03_Orders, trivial⟩ trivial trivial trivial trivial) Tryd.func12 (by kernel_rfl) N_r03_List 0 [.d] (fun hwf => (r03_List_spec a b (wfArg hwf (a := .d (.v (.dat (U := Un) Ty.row a))) (List.mem_of_getElem? (i := 0) rfl)) (wfArg hwf (a := .d (.v (.dat (U := Un) Ty.row b))) (List.mem_of_getElem? (i := 1) rfl)))), hasBody_of Tryd.func12 (by kernel_rfl) (by kernel_rfl)⟩
  · simp at h
end
end Go.Proofs.YtfdnnfbbjiglcaaDoor.B
namespace Go.Proofs.YtfdnnfbbjiglcaaDoor.B
open Go Go.RowKit Go.Shelf
set_option maxRecDepth 1000000
def ren_clone_row : Ren := ⟨fun | 41 => 22 | n => n, fun | 4 => 4 | 22 => 33 | 23 => 35 | n => n, fun | n => n⟩
theorem lays_clone_row : SlLaysE0.n41 Tryd.prog ren_clone_row := {
  mixed := by kernel_rfl
  f41 := ⟨Tryd.f22.name, by kernel_rfl, Tryd.func22.trans (congrArg some (by kernel_rfl))⟩
  t4 := Tryd.underlying4
  a4 := Tryd.isAgg4
  z4 := Tryd.sizeOf4
  v4 := Tryd.zeroValue4
  t22 := Tryd.underlying33
  a22 := Tryd.isAgg33
  z22 := Tryd.sizeOf33
  v22 := Tryd.zeroValue33 }
def F_clone_row : FnC Un := F_clone .val
theorem ok_clone_row : FnOK 22 F_clone_row := clone_inst lays_clone_row (by kernel_rfl) (hasBody_of Tryd.func22 (by kernel_rfl) (by kernel_rfl))
end Go.Proofs.YtfdnnfbbjiglcaaDoor.B
