/- Part 16 of the proof: Sjoiner1 Ljoinp Lbuildb. -/
import Derived.Test.YtcmfdbjdbbpomaaDoorJla15
namespace Go.Proofs.YtcmfdbjdbbpomaaDoor.B
open Go Go.RowKit
set_option maxRecDepth 100000
noncomputable section
attribute [local irreducible] awp ctxK itersK iterK retQ retGQ awf ctxF loopF
def M_jw1 : Mc Un := mach (tbl []) (tbl []) (tbl []) (tbl []) (tbl [])
def A_jw1 (r : Bool) : List (A Un) := [.c (.s (.bool r))]
def O_jw1 (_r : Bool) : List (Ob Un) := []
def R_jw1 (r : Bool) : RF Un := (A_jw1 r, O_jw1 r)
def N_jw1 : Nat → NS := fun l => (look l []).getD ⟨[], [], [], [], [], true⟩
def jw1_fn (v : Val) : Option (RF Un) := awf M_jw1 N_jw1 (bodyOf Tryd.f30) (entry Tryd.f30.ntmps 0 [.d (.agg (enc Ty.val v))]) (retF M_jw1 Tryd.f30.results.toList [.d])
theorem jw1_in (v : Val) : jw1_fn v =
 some (R_jw1 (v.kind == 0)) := by kernel_rfl
def jw1 (v : Val) : Bool :=
  (v.kind == (0 : Int))
theorem jw1_eq (v : Val) : jw1_fn v = some (R_jw1 (jw1 v)) := by rw [jw1_in]; unfold jw1; simp only [cndO_eq]; repeat (first | rfl | split)
def F_jw1 : FnC Un := fun args => match args with
  | [x0] => (dS .val x0).bind fun v => some ([], A_jw1 (jw1 v), O_jw1 (jw1 v))
  | _ => none
theorem ok_jw1 : FnOK 30 F_jw1 := by
  intro args ob rs os h hob
  unfold F_jw1 at h
  split at h
  · simp only [Option.bind_eq_some_iff, Option.some.injEq, Prod.mk.injEq] at h
    obtain ⟨v, e0, rfl, rfl, rfl⟩ := h
    obtain rfl := dS_eq e0
    exact ⟨fn_contractF (M := M_jw1) rfl (tbl_ok (l1 := []) (l2 := []) (l3 := []) (l4 := []) (l5 := []) trivial trivial trivial trivial trivial) Tryd.func30 (by kernel_rfl) N_jw1 0 [.d] (fun hwf => (jw1_eq v)), hasBody_of Tryd.func30 (by kernel_rfl) (by kernel_rfl)⟩
  · simp at h
def V_jw1 : FV Un := fvo_S_val_to_b (fun v => True) (fun v => jw1 v)
theorem okV_jw1 : FvOK 30 V_jw1 := by
  refine ⟨hasBody_of Tryd.func30 (by kernel_rfl) (by kernel_rfl), fun args ob rs h hob => ?_⟩
  unfold V_jw1 fvo_S_val_to_b at h
  split at h
  · simp only [Option.bind_eq_some_iff, Option.some.injEq, Prod.mk.injEq] at h
    obtain ⟨v, e0, rfl, rfl⟩ := h
    simp only [List.map_cons, List.map_nil]
    rw [dS_eq e0]
    refine Contract.data (ok_jw1 _ ([]) _ _ (?_ : F_jw1 _ = some _) (by simp)).1
    unfold F_jw1
    simp only [dSk_mk]
    rfl
  · simp at h
def M_joiner_whole : Mc Un := mach (tbl [(29, F_conf_val)]) (tbl [(30, V_jw1)]) (tbl []) (tbl []) (tbl [])
def A_joiner_whole (r : Bool) : List (A Un) := [.c (.s (.bool r))]
def O_joiner_whole (_r : Bool) : List (Ob Un) := []
def R_joiner_whole (r : Bool) : RF Un := (A_joiner_whole r, O_joiner_whole r)
def N_joiner_whole : Nat → NS := fun l => (look l []).getD ⟨[], [], [], [], [], true⟩
def joiner_whole_fn (r : List Val) : Option (RF Un) := awf M_joiner_whole N_joiner_whole (bodyOf Tryd.f18) (entry Tryd.f18.ntmps 0 [.d (.v (.dat (U := Un) Ty.val r))]) (retF M_joiner_whole Tryd.f18.results.toList [.d])
theorem joiner_whole_in (r : List Val) : joiner_whole_fn r =
 obO (V_jw1 = fvo_S_val_to_b (po_S_val_to_b V_jw1) (pf_S_val_to_b V_jw1))
  (obO (allO_val (po_S_val_to_b V_jw1) r)
   (some (R_joiner_whole (!conf_val r (po_S_val_to_b V_jw1) (pf_S_val_to_b V_jw1))))) := by kernel_rfl
def wholeR (r : List Val) : Bool := r.all fun v => !(v.kind == 0)
def joiner_whole (r : List Val) : Bool := wholeR r
theorem joiner_whole_spec (r : List Val) (_hr : WL .val r) : joiner_whole_fn r = some (R_joiner_whole (joiner_whole r)) := by
  rw [joiner_whole_in]
  have o1 : po_S_val_to_b V_jw1 = fun _ => True := by unfold V_jw1; exact pofvo_S_val_to_b _ _
  have o2 : pf_S_val_to_b V_jw1 = jw1 := by unfold V_jw1; exact pffvo_S_val_to_b _ _
  have o3 : V_jw1 = fvo_S_val_to_b (po_S_val_to_b V_jw1) (pf_S_val_to_b V_jw1) := by rw [o1, o2]; rfl
  rw [obO_pos o3, o1, o2, obO_pos (show allO_val _ r from fun x hx => trivial)]
  unfold joiner_whole wholeR conf_val
  congr 2
  clear _hr
  induction r with
  | nil => rfl
  | cons x l ih =>
    rw [List.any_cons, List.all_cons, Bool.not_or, ih]
    rfl
def F_joiner_whole : FnC Un := fun args => match args with
  | [x0] => (dL .val x0).bind fun r => some ([], A_joiner_whole (joiner_whole r), O_joiner_whole (joiner_whole r))
  | _ => none
theorem ok_joiner_whole : FnOK 18 F_joiner_whole := by
  intro args ob rs os h hob
  unfold F_joiner_whole at h
  split at h
  · simp only [Option.bind_eq_some_iff, Option.some.injEq, Prod.mk.injEq] at h
    obtain ⟨r, e0, rfl, rfl, rfl⟩ := h
    obtain rfl := dL_eq e0
    exact ⟨fn_contractF (M := M_joiner_whole) rfl (tbl_ok (l1 := [(29, F_conf_val)]) (l2 := [(30, V_jw1)]) (l3 := []) (l4 := []) (l5 := []) ⟨ok_conf_val, trivial⟩ ⟨okV_jw1, trivial⟩ trivial trivial trivial) Tryd.func18 (by kernel_rfl) N_joiner_whole 0 [.d] (fun hwf => (joiner_whole_spec r (wfArg hwf (a := .d (.v (.dat (U := Un) Ty.val r))) (List.mem_of_getElem? (i := 0) rfl)))), hasBody_of Tryd.func18 (by kernel_rfl) (by kernel_rfl)⟩
  · simp at h
def M_joiner_meet : Mc Un := mach (tbl [(18, F_joiner_whole), (14, F_value_Orders)]) (tbl []) (tbl []) (tbl []) (tbl [])
def A_joiner_meet (r : Bool) : List (A Un) := [.c (.s (.bool r))]
def O_joiner_meet (_r : Bool) : List (Ob Un) := []
def R_joiner_meet (r : Bool) : RF Un := (A_joiner_meet r, O_joiner_meet r)
def N_joiner_meet : Nat → NS := fun l => (look l []).getD ⟨[], [], [], [], [], true⟩
def joiner_meet_fn (a : List Val) (b : List Val) : Option (RF Un) := awf M_joiner_meet N_joiner_meet (bodyOf Tryd.f17) (entry Tryd.f17.ntmps 0 [.d (.v (.dat (U := Un) Ty.val a)), .d (.v (.dat (U := Un) Ty.val b))]) (retF M_joiner_meet Tryd.f17.results.toList [.d])
theorem joiner_meet_in (a : List Val) (b : List Val) : joiner_meet_fn a b =
 cndO (joiner_whole a)
  (cndO (joiner_whole b)
   (some (R_joiner_meet (value_Orders a b == 0)))
   (some (R_joiner_meet (false))))
  (some (R_joiner_meet (false))) := by kernel_rfl
def meetR (a b : List Val) : Bool := wholeR a && decide (a = b)
def joiner_meet (a b : List Val) : Bool := meetR a b
theorem ordR_eq0 (a b : List Val) : (ordR a b == 0) = decide (a = b) := by
  rw [Bool.eq_iff_iff, beq_iff_eq, decide_eq_true_eq]
  exact ordR_zero
theorem joiner_meet_spec (a b : List Val) (_ha : WL .val a) (_hb : WL .val b) : joiner_meet_fn a b = some (R_joiner_meet (joiner_meet a b)) := by
  rw [joiner_meet_in]
  unfold joiner_meet meetR joiner_whole value_Orders
  rw [ordR_eq0]
  simp only [cndO_eq]
  by_cases e : a = b
  · subst e
    cases h : wholeR a <;> simp [h]
  · cases wholeR a <;> cases wholeR b <;> simp [e]
def F_joiner_meet : FnC Un := fun args => match args with
  | [x0, x1] => (dL .val x0).bind fun a => (dL .val x1).bind fun b => some ([], A_joiner_meet (joiner_meet a b), O_joiner_meet (joiner_meet a b))
  | _ => none
theorem ok_joiner_meet : FnOK 17 F_joiner_meet := by
  intro args ob rs os h hob
  unfold F_joiner_meet at h
  split at h
  · simp only [Option.bind_eq_some_iff, Option.some.injEq, Prod.mk.injEq] at h
    obtain ⟨a, e0, b, e1, rfl, rfl, rfl⟩ := h
    obtain rfl := dL_eq e0
    obtain rfl := dL_eq e1
    exact ⟨fn_contractF (M := M_joiner_meet) rfl (tbl_ok (l1 := [(18, F_joiner_whole), (14, F_value_Orders)]) (l2 := []) (l3 := []) (l4 := []) (l5 := []) ⟨ok_joiner_whole, ok_value_Orders, trivial⟩ trivial trivial trivial trivial) Tryd.func17 (by kernel_rfl) N_joiner_meet 0 [.d] (fun hwf => (joiner_meet_spec a b (wfArg hwf (a := .d (.v (.dat (U := Un) Ty.val a))) (List.mem_of_getElem? (i := 0) rfl)) (wfArg hwf (a := .d (.v (.dat (U := Un) Ty.val b))) (List.mem_of_getElem? (i := 1) rfl)))), hasBody_of Tryd.func17 (by kernel_rfl) (by kernel_rfl)⟩
  · simp at h
def M_joiner_Nest : Mc Un := mach (tbl [(17, F_joiner_meet)]) (tbl []) (tbl []) (tbl []) (tbl [])
def A_joiner_Nest (r : (List (Int × Int))) : List (A Un) := [.c (.sl (U := Un) Ty.pair r false)]
def O_joiner_Nest (_r : (List (Int × Int))) : List (Ob Un) := []
def R_joiner_Nest (r : (List (Int × Int))) : RF Un := (A_joiner_Nest r, O_joiner_Nest r)
def N_joiner_Nest : Nat → NS := fun l => (look l [(3, { ts := bl 36 1571, bs := bl 36 0, nm := [(.sl 5, 144)], cs := true }), (6, { ts := bl 36 50787, bs := bl 36 0, nm := [(.sl 5, 145)], cs := true })]).getD ⟨[], [], [], [], [], true⟩
def joiner_Nest_s3 (l : List (List Val)) (r : List (List Val)) (v0 : Int) (v1 : List (Int × Int)) : S Un := (st 36 36 146 0 [(0, al .row l), (1, al .row r), (5, ao 144), (9, ai (↑l.length : Int)), (10, ai v0)] [] [(144, some ⟨(0 : Nat), Ty.pair, v1, some (0 : Nat), true⟩)])
def joiner_Nest_s6 (l : List (List Val)) (r : List (List Val)) (v0 : Int) (v1 : List (Int × Int)) (v2 : Int) : S Un := (st 36 36 146 0 [(0, al .row l), (1, al .row r), (5, ao 145), (6, ai v0), (9, ai (↑l.length : Int)), (10, ai v0), (14, ai (↑r.length : Int)), (15, ai v2)] [] [(145, some ⟨(0 : Nat), Ty.pair, v1, some (0 : Nat), true⟩)])
noncomputable def joiner_Nest_B3 : Code := sub (bodyOf Tryd.f9) [1, 1, 0, 1, 2, 2]
def joiner_Nest_L3 : S Un → Option (EX Un) := loopF (N_joiner_Nest 3) (fun s Q => awf M_joiner_Nest N_joiner_Nest joiner_Nest_B3 s Q)
noncomputable def joiner_Nest_B6 : Code := sub (sub (bodyOf Tryd.f9) [1, 1, 0, 1, 2, 2]) [1, 1, 0, 2, 1, 1, 2, 2]
def joiner_Nest_L6 : S Un → Option (EX Un) := loopF (N_joiner_Nest 6) (fun s Q => awf M_joiner_Nest N_joiner_Nest joiner_Nest_B6 s Q)
def joiner_Nest_C3 : Exit → S Un → Option (RF Un) := ctxF M_joiner_Nest N_joiner_Nest (bodyOf Tryd.f9) [1, 1, 0, 1, 2] (retF M_joiner_Nest Tryd.f9.results.toList [.d])
def joiner_Nest_C6 : Exit → S Un → Option (EX Un) := ctxF M_joiner_Nest N_joiner_Nest joiner_Nest_B3 [1, 1, 0, 2, 1, 1, 2] (roundF (N_joiner_Nest 3) joiner_Nest_L3)
def joiner_Nest_fn (l : List (List Val)) (r : List (List Val)) : Option (RF Un) := awf M_joiner_Nest N_joiner_Nest (bodyOf Tryd.f9) (entry Tryd.f9.ntmps 2 [.d (.v (.dat (U := Un) Ty.row l)), .d (.v (.dat (U := Un) Ty.row r))]) (retF M_joiner_Nest Tryd.f9.results.toList [.d])
theorem joiner_Nest_in (l : List (List Val)) (r : List (List Val)) : joiner_Nest_fn l r =
 (joiner_Nest_L3 (joiner_Nest_s3 l r (0 : Int) ([]))).bind (thenX joiner_Nest_C3) := by kernel_rfl
theorem joiner_Nest_l3 (l : List (List Val)) (r : List (List Val)) (v0 : Int) (v1 : List (Int × Int)) : joiner_Nest_L3 (joiner_Nest_s3 l r v0 v1) =
 cndO (decide (v0 < (↑l.length : Int)))
  ((joiner_Nest_L6 (joiner_Nest_s6 l r v0 v1 (0 : Int))).bind (thenX joiner_Nest_C6))
  (some (.exit 0, (joiner_Nest_s3 l r v0 v1))) := (loopF_eq (N_joiner_Nest 3) joiner_Nest_B3 _).trans (by kernel_rfl)
theorem joiner_Nest_a3_x0 (l : List (List Val)) (r : List (List Val)) (v0 : Int) (v1 : List (Int × Int)) : joiner_Nest_C3 (.exit 0) (joiner_Nest_s3 l r v0 v1) =
 some (R_joiner_Nest (v1)) := by kernel_rfl
theorem joiner_Nest_l6 (l : List (List Val)) (r : List (List Val)) (v0 : Int) (v1 : List (Int × Int)) (v2 : Int) : joiner_Nest_L6 (joiner_Nest_s6 l r v0 v1 v2) =
 cndO (decide (v2 < (↑r.length : Int)))
  (obO (0 ≤ v0 ∧ v0 < (↑l.length : Int))
   (obO (0 ≤ v2 ∧ v2 < (↑r.length : Int))
    (cndO (joiner_meet (l.getD v0.toNat []) (r.getD v2.toNat []))
     (obO ((v1.length + [(v0, v2)].length) * (16 : Nat) ≤ roomB)
      (joiner_Nest_L6 (joiner_Nest_s6 l r v0 (v1 ++ [(v0, v2)]) (IntKind.i64.wrap (v2 + 1)))))
     (joiner_Nest_L6 (joiner_Nest_s6 l r v0 v1 (IntKind.i64.wrap (v2 + 1)))))))
  (some (.exit 2, (joiner_Nest_s6 l r v0 v1 v2))) := (loopF_eq (N_joiner_Nest 6) joiner_Nest_B6 _).trans (by kernel_rfl)
theorem joiner_Nest_a6_x2 (l : List (List Val)) (r : List (List Val)) (v0 : Int) (v1 : List (Int × Int)) (v2 : Int) : joiner_Nest_C6 (.exit 2) (joiner_Nest_s6 l r v0 v1 v2) =
 joiner_Nest_L3 (joiner_Nest_s3 l r (IntKind.i64.wrap (v0 + 1)) v1) := by kernel_rfl
def jRow (l r : List (List Val)) (i : Nat) : List (Int × Int) := ((List.range r.length).filter fun k : Nat => meetR (l.getD i []) (r.getD k [])).map fun k : Nat => ((i : Int), (k : Int))
def jPairs (l r : List (List Val)) : List (Int × Int) := (List.range l.length).flatMap (jRow l r)
def jBound (l r : List (List Val)) : Prop := l.length ≤ 1000000 ∧ r.length ≤ 1000000
theorem jRow_len (l r : List (List Val)) (i : Nat) : (jRow l r i).length ≤ r.length := by
  unfold jRow
  rw [List.length_map]
  exact Nat.le_trans (List.length_filter_le _ _) (by rw [List.length_range]; exact Nat.le_refl _)
theorem jPart_len (l r : List (List Val)) : ∀ n, ((List.range n).flatMap (jRow l r)).length ≤ n * r.length
  | 0 => by simp
  | n + 1 => by
    have := jPart_len l r n
    have h2 := jRow_len l r n
    rw [List.range_succ, List.flatMap_append, List.length_append, Nat.succ_mul]
    simp only [List.flatMap_cons, List.flatMap_nil, List.append_nil]
    omega
theorem nest_loop {l r : List (List Val)} {L3 L6 : S Un → Option (EX Un)} {s3 : Int → List (Int × Int) → S Un} {s6 : Int → List (Int × Int) → Int → S Un} {C6 : Exit → S Un → Option (EX Un)} {m : List Val → List Val → Bool} (hm : ∀ a b, m a b = meetR a b) (hb : jBound l r)
    (e6 : ∀ v0 v1 v2, L6 (s6 v0 v1 v2) = cndO (decide (v2 < (r.length : Int))) (obO (0 ≤ v0 ∧ v0 < (l.length : Int)) (obO (0 ≤ v2 ∧ v2 < (r.length : Int)) (cndO (m (l.getD v0.toNat []) (r.getD v2.toNat [])) (obO ((v1.length + [(v0, v2)].length) * (16 : Nat) ≤ roomB) (L6 (s6 v0 (v1 ++ [(v0, v2)]) (IntKind.i64.wrap (v2 + 1))))) (L6 (s6 v0 v1 (IntKind.i64.wrap (v2 + 1))))))) (some (.exit 2, s6 v0 v1 v2)))
    (e3 : ∀ v0 v1, L3 (s3 v0 v1) = cndO (decide (v0 < (l.length : Int))) ((L6 (s6 v0 v1 (0 : Int))).bind (thenX C6)) (some (.exit 0, s3 v0 v1)))
    (x6 : ∀ v0 v1 v2, C6 (.exit 2) (s6 v0 v1 v2) = L3 (s3 (IntKind.i64.wrap (v0 + 1)) v1)) : L3 (s3 (0 : Int) []) = some (.exit 0, s3 (l.length : Int) (jPairs l r)) := by
  obtain ⟨hb1, hb2⟩ := hb
  obtain ⟨o, ho, L1⟩ := loop_inv (L := L3) (st := fun (o : List (Int × Int)) i => s3 i o) (n := l.length) (by omega) (fun i o => o = (List.range i).flatMap (jRow l r)) (e := .exit 0)
    (fun o i hi hI => by
      obtain ⟨o2, ho2, L2⟩ := loop_inv (L := L6) (st := fun (o : List (Int × Int)) k => s6 (i : Int) o k) (n := r.length) (by omega) (fun k o2 => o2 = o ++ ((List.range k).filter fun k : Nat => meetR (l.getD i []) (r.getD k [])).map fun k : Nat => ((i : Int), (k : Int))) (e := .exit 2)
        (fun o2 k hk hI2 => by
          have hln : o2.length ≤ l.length * r.length := by
            have h1 := jPart_len l r i
            have h2 : ((List.range k).filter fun k : Nat => meetR (l.getD i []) (r.getD k [])).length ≤ k := Nat.le_trans (List.length_filter_le _ _) (by rw [List.length_range]; exact Nat.le_refl _)
            have h3 : i * r.length + k ≤ l.length * r.length := by
              have : (i + 1) * r.length ≤ l.length * r.length := Nat.mul_le_mul_right _ hi
              rw [Nat.succ_mul] at this; omega
            rw [hI2, hI, List.length_append, List.length_map]
            omega
          have hmul : l.length * r.length ≤ 1000000 * 1000000 := Nat.mul_le_mul hb1 hb2
          rw [e6]
          simp only [Int.toNat_natCast, cndO_eq]
          rw [if_pos (by simp; omega), obO_pos (by omega), obO_pos (by omega), hm]
          by_cases c : meetR (l.getD i []) (r.getD k []) = true
          · refine ⟨o2 ++ [((i : Int), (k : Int))], ?_, ?_⟩
            · rw [hI2, List.range_succ, List.filter_append, List.map_append, List.append_assoc, List.filter_cons, if_pos c]
              rfl
            · rw [if_pos c, obO_pos (by unfold roomB; rw [List.length_singleton]; omega)]
          · refine ⟨o2, ?_, ?_⟩
            · rw [hI2, List.range_succ, List.filter_append, List.map_append, List.filter_cons, if_neg c, List.filter_nil, List.map_nil, List.append_nil]
            · rw [if_neg c])
        (fun o2 _ => by
          rw [e6]
          simp [cndO_eq]) o (by simp)
      refine ⟨o2, ?_, ?_⟩
      · rw [ho2, hI, List.range_succ, List.flatMap_append]
        simp [jRow]
      · rw [e3, cndO_eq, if_pos (by simp; omega), loop_end L2, x6])
    (fun o _ => by
      rw [e3]
      simp [cndO_eq]) [] rfl
  rw [ho] at L1
  exact L1
def joiner_Nest (l r : List (List Val)) : List (Int × Int) := jPairs l r
theorem joiner_Nest_spec (l r : List (List Val)) (_hl : WL .row l) (_hr : WL .row r) (h : jBound l r) : joiner_Nest_fn l r = some (R_joiner_Nest (joiner_Nest l r)) := by
  rw [joiner_Nest_in]
  have := nest_loop (l := l) (r := r) (L3 := joiner_Nest_L3) (L6 := joiner_Nest_L6) (s3 := joiner_Nest_s3 l r) (s6 := joiner_Nest_s6 l r) (C6 := joiner_Nest_C6) (m := joiner_meet) (fun _ _ => rfl) h (joiner_Nest_l6 l r) (joiner_Nest_l3 l r) (joiner_Nest_a6_x2 l r)
  rw [loop_end this, joiner_Nest_a3_x0]
  rfl
def F_joiner_Nest : FnC Un := fun args => match args with
  | [x0, x1] => (dL .row x0).bind fun l => (dL .row x1).bind fun r => some ([jBound l r], A_joiner_Nest (joiner_Nest l r), O_joiner_Nest (joiner_Nest l r))
  | _ => none
theorem ok_joiner_Nest : FnOK 9 F_joiner_Nest := by
  intro args ob rs os h hob
  unfold F_joiner_Nest at h
  split at h
  · simp only [Option.bind_eq_some_iff, Option.some.injEq, Prod.mk.injEq] at h
    obtain ⟨l, e0, r, e1, rfl, rfl, rfl⟩ := h
    obtain rfl := dL_eq e0
    obtain rfl := dL_eq e1
    exact ⟨fn_contractF (M := M_joiner_Nest) rfl (tbl_ok (l1 := [(17, F_joiner_meet)]) (l2 := []) (l3 := []) (l4 := []) (l5 := []) ⟨ok_joiner_meet, trivial⟩ trivial trivial trivial trivial) Tryd.func9 (by kernel_rfl) N_joiner_Nest 2 [.d] (fun hwf => (joiner_Nest_spec l r (wfArg hwf (a := .d (.v (.dat (U := Un) Ty.row l))) (List.mem_of_getElem? (i := 0) rfl)) (wfArg hwf (a := .d (.v (.dat (U := Un) Ty.row r))) (List.mem_of_getElem? (i := 1) rfl)) (hob _ (List.mem_of_getElem? (i := 0) rfl)))), hasBody_of Tryd.func9 (by kernel_rfl) (by kernel_rfl)⟩
  · simp at h
def M_joiner_run : Mc Un := mach (tbl [(14, F_value_Orders)]) (tbl []) (tbl []) (tbl []) (tbl [])
def A_joiner_run (r : Int) : List (A Un) := [.c (.s (.int .i64 r))]
def O_joiner_run (_r : Int) : List (Ob Un) := []
def R_joiner_run (r : Int) : RF Un := (A_joiner_run r, O_joiner_run r)
def N_joiner_run : Nat → NS := fun l => (look l [(2, { ts := bl 37 135, bs := bl 37 0, nm := [], cs := true })]).getD ⟨[], [], [], [], [], true⟩
def joiner_run_s2 (l : List (List Val)) (at_ : List Int) (from_ : Int) (v0 : Int) : S Un := (st 37 37 148 0 [(0, al .row l), (1, al .int at_), (2, ai from_), (7, ai v0)] [] [])
noncomputable def joiner_run_B2 : Code := sub (bodyOf Tryd.f21) [1, 1, 0, 2, 2]
def joiner_run_L2 : S Un → Option (EX Un) := loopF (N_joiner_run 2) (fun s Q => awf M_joiner_run N_joiner_run joiner_run_B2 s Q)
def joiner_run_C2 : Exit → S Un → Option (RF Un) := ctxF M_joiner_run N_joiner_run (bodyOf Tryd.f21) [1, 1, 0, 2] (retF M_joiner_run Tryd.f21.results.toList [.d])
def joiner_run_fn (l : List (List Val)) (at_ : List Int) (from_ : Int) : Option (RF Un) := awf M_joiner_run N_joiner_run (bodyOf Tryd.f21) (entry Tryd.f21.ntmps 0 [.d (.v (.dat (U := Un) Ty.row l)), .d (.v (.dat (U := Un) Ty.int at_)), .d (.v (.s (.int .i64 from_)))]) (retF M_joiner_run Tryd.f21.results.toList [.d])
theorem joiner_run_in (l : List (List Val)) (at_ : List Int) (from_ : Int) : joiner_run_fn l at_ from_ =
 (joiner_run_L2 (joiner_run_s2 l at_ from_ (1 : Int))).bind (thenX joiner_run_C2) := by kernel_rfl
theorem joiner_run_l2 (l : List (List Val)) (at_ : List Int) (from_ : Int) (v0 : Int) : joiner_run_L2 (joiner_run_s2 l at_ from_ v0) =
 cndO (decide (IntKind.i64.wrap (from_ + v0) < (↑at_.length : Int)))
  (obO (0 ≤ from_ ∧ from_ < (↑at_.length : Int))
   (obO (0 ≤ at_.getD from_.toNat (0 : Int) ∧ at_.getD from_.toNat (0 : Int) < (↑l.length : Int))
    (obO (0 ≤ IntKind.i64.wrap (from_ + v0) ∧ IntKind.i64.wrap (from_ + v0) < (↑at_.length : Int))
     (obO (0 ≤ at_.getD (IntKind.i64.wrap (from_ + v0)).toNat (0 : Int) ∧ at_.getD (IntKind.i64.wrap (from_ + v0)).toNat (0 : Int) < (↑l.length : Int))
      (cndO (value_Orders (l.getD (Int.toNat (at_.getD from_.toNat (0 : Int))) []) (l.getD (Int.toNat (at_.getD (IntKind.i64.wrap (from_ + v0)).toNat (0 : Int))) []) == 0)
       (joiner_run_L2 (joiner_run_s2 l at_ from_ (IntKind.i64.wrap (v0 + 1))))
       (some (.exit 0, (joiner_run_s2 l at_ from_ v0))))))))
  (some (.exit 0, (joiner_run_s2 l at_ from_ v0))) := (loopF_eq (N_joiner_run 2) joiner_run_B2 _).trans (by kernel_rfl)
theorem joiner_run_a2_x0 (l : List (List Val)) (at_ : List Int) (from_ : Int) (v0 : Int) : joiner_run_C2 (.exit 0) (joiner_run_s2 l at_ from_ v0) =
 some (R_joiner_run (v0)) := by kernel_rfl
def jAt (l : List (List Val)) (p : Int) : List Val := l.getD p.toNat []
def jIn (l : List (List Val)) (at_ : List Int) : Prop := ∀ p ∈ at_, 0 ≤ p ∧ p < (l.length : Int)
theorem jIn.at {l : List (List Val)} {at_ : List Int} (h : jIn l at_) {i : Nat} (hi : i < at_.length) : 0 ≤ at_.getD i 0 ∧ at_.getD i 0 < (l.length : Int) := by
  rw [List.getD_eq_getElem?_getD, List.getElem?_eq_getElem hi]
  exact h _ (List.getElem_mem hi)
def runN (l : List (List Val)) (at_ : List Int) (i : Nat) : Nat := 1 + ((at_.drop (i + 1)).takeWhile fun p => decide (jAt l (at_.getD i 0) = jAt l p)).length
def joiner_run (l : List (List Val)) (at_ : List Int) (from_ : Int) : Int := (runN l at_ from_.toNat : Int)
theorem joiner_run_spec (l : List (List Val)) (at_ : List Int) (from_ : Int) (_hl : WL .row l) (ha : WL .int at_) (_hf : WI from_) (h : (0 ≤ from_ ∧ from_ < (at_.length : Int)) ∧ jIn l at_) : joiner_run_fn l at_ from_ = some (R_joiner_run (joiner_run l at_ from_)) := by
  obtain ⟨⟨h0, h1⟩, hin⟩ := h
  obtain ⟨i, rfl⟩ : ∃ i : Nat, from_ = (i : Int) := ⟨from_.toNat, by omega⟩
  have hal := ha.len
  have hi : i < at_.length := by omega
  have key : ∀ (r : List Int) (k : Nat), at_.drop (i + k) = r → i + k ≤ at_.length → joiner_run_L2 (joiner_run_s2 l at_ (i : Int) (k : Int)) = some (.exit 0, joiner_run_s2 l at_ (i : Int) ((k + (r.takeWhile fun p => decide (jAt l (at_.getD i 0) = jAt l p)).length : Nat) : Int)) := by
    intro r
    induction r with
    | nil =>
      intro k e hk
      have n1 : at_.length ≤ i + k := List.drop_eq_nil_iff.1 e
      rw [joiner_run_l2, wrap_id (by omega), cndO_eq, if_neg (by rw [decide_eq_true_eq]; omega)]
      rfl
    | cons p r ih =>
      intro k e hk
      obtain ⟨a1, a2, a3, _⟩ := drop_cons e
      have a2' : at_.getD (i + k) 0 = p := a2 _
      have hp := hin.at a1
      rw [a2'] at hp
      have hf := hin.at hi
      have ew : ((i : Int) + (k : Int)).toNat = i + k := by omega
      rw [joiner_run_l2, wrap_id (by omega)]
      simp only [cndO_eq, Int.toNat_natCast, ew, a2']
      rw [if_pos (by rw [decide_eq_true_eq]; omega), obO_pos (by omega), obO_pos hf, obO_pos (by omega), obO_pos hp]
      unfold value_Orders
      rw [ordR_eq0, wrap_id (by omega)]
      by_cases c : jAt l (at_.getD i 0) = jAt l p
      · have c' : l.getD (at_.getD i 0).toNat [] = l.getD p.toNat [] := c
        rw [if_pos (by rw [decide_eq_true_eq]; exact c'), show ((k : Int) + 1) = ((k + 1 : Nat) : Int) by omega, ih (k + 1) (by rw [← a3]; rfl) (by omega), List.takeWhile_cons, if_pos (by rw [decide_eq_true_eq]; exact c), List.length_cons]
        congr 4; omega
      · have c' : ¬ l.getD (at_.getD i 0).toNat [] = l.getD p.toNat [] := c
        rw [if_neg (by rw [decide_eq_true_eq]; exact c'), List.takeWhile_cons, if_neg (by rw [decide_eq_true_eq]; exact c)]
        rfl
  rw [joiner_run_in]
  have hL := key (at_.drop (i + 1)) 1 rfl (by omega)
  refine (loop_end hL).trans ?_
  rw [joiner_run_a2_x0]
  unfold joiner_run runN
  rw [Int.toNat_natCast]
def F_joiner_run : FnC Un := fun args => match args with
  | [x0, x1, x2] => (dL .row x0).bind fun l => (dL .int x1).bind fun at_ => (dI .i64 x2).bind fun from_ => some ([(0 ≤ from_ ∧ from_ < (at_.length : Int)) ∧ jIn l at_], A_joiner_run (joiner_run l at_ from_), O_joiner_run (joiner_run l at_ from_))
  | _ => none
theorem ok_joiner_run : FnOK 21 F_joiner_run := by
  intro args ob rs os h hob
  unfold F_joiner_run at h
  split at h
  · simp only [Option.bind_eq_some_iff, Option.some.injEq, Prod.mk.injEq] at h
    obtain ⟨l, e0, at_, e1, from_, e2, rfl, rfl, rfl⟩ := h
    obtain rfl := dL_eq e0
    obtain rfl := dL_eq e1
    obtain rfl := dI_eq e2
    exact ⟨fn_contractF (M := M_joiner_run) rfl (tbl_ok (l1 := [(14, F_value_Orders)]) (l2 := []) (l3 := []) (l4 := []) (l5 := []) ⟨ok_value_Orders, trivial⟩ trivial trivial trivial trivial) Tryd.func21 (by kernel_rfl) N_joiner_run 0 [.d] (fun hwf => (joiner_run_spec l at_ from_ (wfArg hwf (a := .d (.v (.dat (U := Un) Ty.row l))) (List.mem_of_getElem? (i := 0) rfl)) (wfArg hwf (a := .d (.v (.dat (U := Un) Ty.int at_))) (List.mem_of_getElem? (i := 1) rfl)) (wfArg hwf (a := .d (.v (.s (.int .i64 from_)))) (List.mem_of_getElem? (i := 2) rfl)) (hob _ (List.mem_of_getElem? (i := 0) rfl)))), hasBody_of Tryd.func21 (by kernel_rfl) (by kernel_rfl)⟩
  · simp at h
def M_r32_Alone : Mc Un := mach (tbl []) (tbl []) (tbl []) (tbl []) (tbl [])
def A_r32_Alone (r : List Int) : List (A Un) := [.c (.sl (U := Un) Ty.int r false)]
def O_r32_Alone (_r : List Int) : List (Ob Un) := []
def R_r32_Alone (r : List Int) : RF Un := (A_r32_Alone r, O_r32_Alone r)
def N_r32_Alone : Nat → NS := fun l => (look l [(3, { ts := bl 37 99, bs := bl 37 0, nm := [(.sl 5, 148)], cs := true }), (7, { ts := bl 37 483, bs := bl 37 0, nm := [(.sl 5, 149)], cs := true })]).getD ⟨[], [], [], [], [], true⟩
def r32_Alone_s3 (n : Int) (l : List (Int × Int)) (v0 : Int) (v1 : List Int) : S Un := (st 37 37 150 0 [(0, ai n), (1, al .pair l), (5, ao 148), (6, ai v0)] [] [(148, some ⟨(0 : Nat), Ty.int, v1, some (0 : Nat), true⟩)])
def r32_Alone_s7 (n : Int) (l : List (Int × Int)) (v0 : Int) (v1 : List Int) (v2 : Bool) (v3 : Int) : S Un := (st 37 37 150 0 [(0, ai n), (1, al .pair l), (5, ao 149), (6, ai v0), (7, ab v2), (8, ai v3)] [] [(149, some ⟨(0 : Nat), Ty.int, v1, some (0 : Nat), true⟩)])
noncomputable def r32_Alone_B3 : Code := sub (bodyOf Tryd.f13) [1, 1, 0, 1, 2, 2]
def r32_Alone_L3 : S Un → Option (EX Un) := loopF (N_r32_Alone 3) (fun s Q => awf M_r32_Alone N_r32_Alone r32_Alone_B3 s Q)
noncomputable def r32_Alone_B7 : Code := sub (sub (bodyOf Tryd.f13) [1, 1, 0, 1, 2, 2]) [1, 0, 2, 1, 0, 1, 2, 2]
def r32_Alone_L7 : S Un → Option (EX Un) := loopF (N_r32_Alone 7) (fun s Q => awf M_r32_Alone N_r32_Alone r32_Alone_B7 s Q)
def r32_Alone_C3 : Exit → S Un → Option (RF Un) := ctxF M_r32_Alone N_r32_Alone (bodyOf Tryd.f13) [1, 1, 0, 1, 2] (retF M_r32_Alone Tryd.f13.results.toList [.d])
def r32_Alone_C7 : Exit → S Un → Option (EX Un) := ctxF M_r32_Alone N_r32_Alone r32_Alone_B3 [1, 0, 2, 1, 0, 1, 2] (roundF (N_r32_Alone 3) r32_Alone_L3)
def r32_Alone_fn (n : Int) (l : List (Int × Int)) : Option (RF Un) := awf M_r32_Alone N_r32_Alone (bodyOf Tryd.f13) (entry Tryd.f13.ntmps 2 [.d (.v (.s (.int .i64 n))), .d (.v (.dat (U := Un) Ty.pair l))]) (retF M_r32_Alone Tryd.f13.results.toList [.d])
theorem r32_Alone_in (n : Int) (l : List (Int × Int)) : r32_Alone_fn n l =
 (r32_Alone_L3 (r32_Alone_s3 n l (0 : Int) ([]))).bind (thenX r32_Alone_C3) := by kernel_rfl
theorem r32_Alone_l3 (n : Int) (l : List (Int × Int)) (v0 : Int) (v1 : List Int) : r32_Alone_L3 (r32_Alone_s3 n l v0 v1) =
 cndO (decide (v0 < n))
  ((r32_Alone_L7 (r32_Alone_s7 n l v0 v1 false (0 : Int))).bind (thenX r32_Alone_C7))
  (some (.exit 0, (r32_Alone_s3 n l v0 v1))) := (loopF_eq (N_r32_Alone 3) r32_Alone_B3 _).trans (by kernel_rfl)
theorem r32_Alone_a3_x0 (n : Int) (l : List (Int × Int)) (v0 : Int) (v1 : List Int) : r32_Alone_C3 (.exit 0) (r32_Alone_s3 n l v0 v1) =
 some (R_r32_Alone (v1)) := by kernel_rfl
theorem r32_Alone_l7 (n : Int) (l : List (Int × Int)) (v0 : Int) (v1 : List Int) (v2 : Bool) (v3 : Int) : r32_Alone_L7 (r32_Alone_s7 n l v0 v1 v2 v3) =
 cndO (decide (v3 < (↑l.length : Int)))
  (cndO (v2)
   (r32_Alone_L7 (r32_Alone_s7 n l v0 v1 true (IntKind.i64.wrap (v3 + 1))))
   (obO (0 ≤ v3 ∧ v3 < (↑l.length : Int))
    (r32_Alone_L7 (r32_Alone_s7 n l v0 v1 ((l.getD v3.toNat ((0 : Int), (0 : Int))).fst == v0) (IntKind.i64.wrap (v3 + 1))))))
  (some (.exit 2, (r32_Alone_s7 n l v0 v1 v2 v3))) := (loopF_eq (N_r32_Alone 7) r32_Alone_B7 _).trans (by kernel_rfl)
theorem r32_Alone_a7_x2 (n : Int) (l : List (Int × Int)) (v0 : Int) (v1 : List Int) (v2 : Bool) (v3 : Int) : r32_Alone_C7 (.exit 2) (r32_Alone_s7 n l v0 v1 v2 v3) =
 cndO (!v2)
  (obO ((v1.length + [v0].length) * (8 : Nat) ≤ roomB)
   (r32_Alone_L3 (r32_Alone_s3 n l (IntKind.i64.wrap (v0 + 1)) (v1 ++ [v0]))))
  (r32_Alone_L3 (r32_Alone_s3 n l (IntKind.i64.wrap (v0 + 1)) v1)) := by kernel_rfl
def aloneL (n : Nat) (l : List (Int × Int)) : List Int := ((List.range n).filter fun i : Nat => !l.any fun p => p.1 == (i : Int)).map fun i : Nat => (i : Int)
theorem aloneL_len (n : Nat) (l : List (Int × Int)) : (aloneL n l).length ≤ n := by
  unfold aloneL
  rw [List.length_map]
  exact Nat.le_trans (List.length_filter_le _ _) (by rw [List.length_range]; exact Nat.le_refl _)
theorem aloneL_succ (n : Nat) (l : List (Int × Int)) : aloneL (n + 1) l = if (l.any fun p => p.1 == (n : Int)) then aloneL n l else aloneL n l ++ [(n : Int)] := by
  unfold aloneL
  rw [List.range_succ, List.filter_append, List.map_append]
  cases h : l.any fun p => p.1 == (n : Int) <;> simp [h]
def r32_Alone (n : Int) (l : List (Int × Int)) : List Int := aloneL n.toNat l
theorem r32_Alone_spec (n : Int) (l : List (Int × Int)) (_hn : WI n) (hl : WL .pair l) (h : n ≤ 1000000) : r32_Alone_fn n l = some (R_r32_Alone (r32_Alone n l)) := by
  have hll := hl.len
  rw [r32_Alone_in]
  by_cases hn0 : 0 ≤ n
  · obtain ⟨m, rfl⟩ : ∃ m : Nat, n = (m : Int) := ⟨n.toNat, by omega⟩
    obtain ⟨o, ho, L1⟩ := loop_inv (L := r32_Alone_L3) (st := fun (o : List Int) i => r32_Alone_s3 (m : Int) l i o) (n := m) (by omega) (fun i o => o = aloneL i l) (e := .exit 0)
      (fun o i hi hI => by
        have key : ∀ (r : List (Int × Int)) (j : Nat) (b : Bool), l.drop j = r → j ≤ l.length → r32_Alone_L7 (r32_Alone_s7 (m : Int) l (i : Int) o b (j : Int)) = some (.exit 2, r32_Alone_s7 (m : Int) l (i : Int) o (b || r.any fun p => p.1 == (i : Int)) (l.length : Int)) := by
          intro r
          induction r with
          | nil =>
            intro j b e hj
            have n1 : l.length ≤ j := List.drop_eq_nil_iff.1 e
            obtain rfl : j = l.length := by omega
            rw [r32_Alone_l7, cndO_eq, if_neg (by rw [decide_eq_true_eq]; omega)]
            simp
          | cons p r ih =>
            intro j b e hj
            obtain ⟨a1, a2, a3, _⟩ := drop_cons e
            have a2' : l.getD j ((0 : Int), (0 : Int)) = p := a2 _
            rw [r32_Alone_l7, cndO_eq, if_pos (by rw [decide_eq_true_eq]; omega), wrap_id (by omega)]
            cases b with
            | true =>
              rw [cndO_eq, if_pos rfl, show ((j : Int) + 1) = ((j + 1 : Nat) : Int) by omega, ih (j + 1) true a3 (by omega)]
              simp
            | false =>
              rw [cndO_eq, if_neg (by simp), obO_pos (by omega), Int.toNat_natCast, a2', show ((j : Int) + 1) = ((j + 1 : Nat) : Int) by omega, ih (j + 1) _ a3 (by omega)]
              simp
        have hk := key l 0 false rfl (Nat.zero_le _)
        have hol := aloneL_len i l
        have hs := aloneL_succ i l
        rw [r32_Alone_l3, cndO_eq, if_pos (by rw [decide_eq_true_eq]; omega)]
        cases c : l.any fun p => p.1 == (i : Int) with
        | true =>
          rw [c] at hk hs
          refine ⟨o, by rw [hs, if_pos rfl]; exact hI, ?_⟩
          refine (loop_end hk).trans ?_
          rw [r32_Alone_a7_x2, cndO_eq, if_neg (by simp)]
        | false =>
          rw [c] at hk hs
          refine ⟨o ++ [(i : Int)], by rw [hs, if_neg (by simp), hI], ?_⟩
          refine (loop_end hk).trans ?_
          rw [r32_Alone_a7_x2, cndO_eq, if_pos (by simp), obO_pos (by unfold roomB; rw [hI, List.length_singleton]; omega)])
      (fun o _ => by rw [r32_Alone_l3]; simp [cndO_eq]) [] rfl
    rw [ho] at L1
    refine (loop_end L1).trans ?_
    rw [r32_Alone_a3_x0]
    rfl
  · have hL : r32_Alone_L3 (r32_Alone_s3 n l (0 : Int) []) = some (.exit 0, r32_Alone_s3 n l (0 : Int) []) := by
      rw [r32_Alone_l3, cndO_eq, if_neg (by rw [decide_eq_true_eq]; omega)]
    rw [loop_end hL, r32_Alone_a3_x0]
    unfold r32_Alone
    rw [show n.toNat = 0 by omega]
    rfl
def F_r32_Alone : FnC Un := fun args => match args with
  | [x0, x1] => (dI .i64 x0).bind fun n => (dL .pair x1).bind fun l => some ([n ≤ 1000000], A_r32_Alone (r32_Alone n l), O_r32_Alone (r32_Alone n l))
  | _ => none
theorem ok_r32_Alone : FnOK 13 F_r32_Alone := by
  intro args ob rs os h hob
  unfold F_r32_Alone at h
  split at h
  · simp only [Option.bind_eq_some_iff, Option.some.injEq, Prod.mk.injEq] at h
    obtain ⟨n, e0, l, e1, rfl, rfl, rfl⟩ := h
    obtain rfl := dI_eq e0
    obtain rfl := dL_eq e1
    exact ⟨fn_contractF (M := M_r32_Alone) rfl (tbl_ok (l1 := []) (l2 := []) (l3 := []) (l4 := []) (l5 := []) trivial trivial trivial trivial trivial) Tryd.func13 (by kernel_rfl) N_r32_Alone 2 [.d] (fun hwf => (r32_Alone_spec n l (wfArg hwf (a := .d (.v (.s (.int .i64 n)))) (List.mem_of_getElem? (i := 0) rfl)) (wfArg hwf (a := .d (.v (.dat (U := Un) Ty.pair l))) (List.mem_of_getElem? (i := 1) rfl)) (hob _ (List.mem_of_getElem? (i := 0) rfl)))), hasBody_of Tryd.func13 (by kernel_rfl) (by kernel_rfl)⟩
  · simp at h
def M_r32_Same : Mc Un := mach (tbl []) (tbl []) (tbl []) (tbl []) (tbl [])
def A_r32_Same (r : Bool) : List (A Un) := [.c (.s (.bool r))]
def O_r32_Same (_r : Bool) : List (Ob Un) := []
def R_r32_Same (r : Bool) : RF Un := (A_r32_Same r, O_r32_Same r)
def N_r32_Same : Nat → NS := fun l => (look l [(4, { ts := bl 26 51, bs := bl 26 0, nm := [], cs := true })]).getD ⟨[], [], [], [], [], true⟩
def r32_Same_s4 (a : List (Int × Int)) (b : List (Int × Int)) (v0 : Int) : S Un := (st 26 26 104 0 [(0, al .pair a), (1, al .pair b), (4, ab false), (5, ai v0)] [] [])
noncomputable def r32_Same_B4 : Code := sub (bodyOf Tryd.f8) [1, 1, 0, 1, 2, 2]
def r32_Same_L4 : S Un → Option (EX Un) := loopF (N_r32_Same 4) (fun s Q => awf M_r32_Same N_r32_Same r32_Same_B4 s Q)
def r32_Same_C4 : Exit → S Un → Option (RF Un) := ctxF M_r32_Same N_r32_Same (bodyOf Tryd.f8) [1, 1, 0, 1, 2] (retF M_r32_Same Tryd.f8.results.toList [.d])
def r32_Same_fn (a : List (Int × Int)) (b : List (Int × Int)) : Option (RF Un) := awf M_r32_Same N_r32_Same (bodyOf Tryd.f8) (entry Tryd.f8.ntmps 0 [.d (.v (.dat (U := Un) Ty.pair a)), .d (.v (.dat (U := Un) Ty.pair b))]) (retF M_r32_Same Tryd.f8.results.toList [.d])
theorem r32_Same_in (a : List (Int × Int)) (b : List (Int × Int)) : r32_Same_fn a b =
 cndO ((↑a.length : Int) != (↑b.length : Int))
  (some (R_r32_Same (false)))
  ((r32_Same_L4 (r32_Same_s4 a b (0 : Int))).bind (thenX r32_Same_C4)) := by kernel_rfl
theorem r32_Same_l4 (a : List (Int × Int)) (b : List (Int × Int)) (v0 : Int) : r32_Same_L4 (r32_Same_s4 a b v0) =
 cndO (decide (v0 < (↑a.length : Int)))
  (obO (0 ≤ v0 ∧ v0 < (↑a.length : Int))
   (obO (0 ≤ v0 ∧ v0 < (↑b.length : Int))
    (cndO (!andB [EK.int IntKind.i64] ((a.getD v0.toNat ((0 : Int), (0 : Int))).fst == (b.getD v0.toNat ((0 : Int), (0 : Int))).fst) (andB [] ((a.getD v0.toNat ((0 : Int), (0 : Int))).snd == (b.getD v0.toNat ((0 : Int), (0 : Int))).snd) true))
     (some (.ret, (r32_Same_s4 a b v0)))
     (r32_Same_L4 (r32_Same_s4 a b (IntKind.i64.wrap (v0 + 1)))))))
  (some (.exit 0, (r32_Same_s4 a b v0))) := (loopF_eq (N_r32_Same 4) r32_Same_B4 _).trans (by kernel_rfl)
theorem r32_Same_a4_ret (a : List (Int × Int)) (b : List (Int × Int)) (v0 : Int) : r32_Same_C4 .ret (r32_Same_s4 a b v0) =
 some (R_r32_Same (false)) := by kernel_rfl
theorem r32_Same_a4_x0 (a : List (Int × Int)) (b : List (Int × Int)) (v0 : Int) : r32_Same_C4 (.exit 0) (r32_Same_s4 a b v0) =
 some (R_r32_Same (true)) := by kernel_rfl
noncomputable def r32_Same (a b : List (Int × Int)) : Bool := deq a b
theorem eqPair (x y : Int × Int) : andB [EK.int IntKind.i64] (x.fst == y.fst) (andB [] (x.snd == y.snd) true) = deq x y := by
  refine deq_of ?_
  cases x; cases y
  simp [andB]
theorem r32_Same_spec (a b : List (Int × Int)) (ha : WL .pair a) (_hb : WL .pair b) : r32_Same_fn a b = some (R_r32_Same (r32_Same a b)) := by
  rw [r32_Same_in]
  by_cases hl : a.length = b.length
  · rw [cndO_eq, if_neg (by simp [hl])]
    exact loop_pre (L := r32_Same_L4) (st := fun i => r32_Same_s4 a b i) (fun r => some (R_r32_Same r)) (d := ((0 : Int), (0 : Int))) ha.len
      (fun i hi hj => by
        rw [r32_Same_l4, eqPair]
        simp only [cndO_eq, Int.toNat_natCast]
        rw [if_pos (by simp; omega), obO_pos (by omega), obO_pos (by omega)]
        cases deq (a.getD i ((0 : Int), (0 : Int))) (b.getD i ((0 : Int), (0 : Int))) <;> simp)
      (fun i h => by
        rw [r32_Same_l4]
        simp only [cndO_eq, decide_eq_true_eq]
        rw [if_neg (by omega)])
      (fun i => r32_Same_a4_ret _ _ _) (fun i => by rw [r32_Same_a4_x0, hl]; simp)
  · rw [cndO_eq, if_pos (by simp; omega)]
    unfold r32_Same
    have : deq a b = false := by
      cases h : deq a b with
      | false => rfl
      | true => exact absurd (congrArg List.length (deq_iff.1 h)) hl
    rw [this]
def F_r32_Same : FnC Un := fun args => match args with
  | [x0, x1] => (dL .pair x0).bind fun a => (dL .pair x1).bind fun b => some ([], A_r32_Same (r32_Same a b), O_r32_Same (r32_Same a b))
  | _ => none
theorem ok_r32_Same : FnOK 8 F_r32_Same := by
  intro args ob rs os h hob
  unfold F_r32_Same at h
  split at h
  · simp only [Option.bind_eq_some_iff, Option.some.injEq, Prod.mk.injEq] at h
    obtain ⟨a, e0, b, e1, rfl, rfl, rfl⟩ := h
    obtain rfl := dL_eq e0
    obtain rfl := dL_eq e1
    exact ⟨fn_contractF (M := M_r32_Same) rfl (tbl_ok (l1 := []) (l2 := []) (l3 := []) (l4 := []) (l5 := []) trivial trivial trivial trivial trivial) Tryd.func8 (by kernel_rfl) N_r32_Same 0 [.d] (fun hwf => (r32_Same_spec a b (wfArg hwf (a := .d (.v (.dat (U := Un) Ty.pair a))) (List.mem_of_getElem? (i := 0) rfl)) (wfArg hwf (a := .d (.v (.dat (U := Un) Ty.pair b))) (List.mem_of_getElem? (i := 1) rfl)))), hasBody_of Tryd.func8 (by kernel_rfl) (by kernel_rfl)⟩
  · simp at h
end
end Go.Proofs.YtcmfdbjdbbpomaaDoor.B
namespace Go.Proofs.YtcmfdbjdbbpomaaDoor.B
open Go Go.RowKit
set_option linter.unusedVariables false
noncomputable section
theorem cmpInt_neg {a b : Int} : Lib.compareInt a b < 0 ↔ a < b := by unfold Lib.compareInt; split <;> (try split) <;> omega
theorem or2_neg {z c : Int} : orI [z, c] < 0 ↔ z < 0 ∨ (z = 0 ∧ c < 0) := by
  simp only [orI]
  split
  · split <;> omega
  · omega
theorem uni_of {β : Type} {p : β → β → Int} (irr : ∀ x, ¬ p x x < 0) (tr : ∀ x y z, p x y < 0 → p y z < 0 → p x z < 0) (eq : ∀ x y, ¬ p x y < 0 → ¬ p y x < 0 → x = y) (l : List β) : uniQ p l where
  irr := fun x _ => irr x
  tr := fun x _ y _ z _ => tr x y z
  ntr := fun x _ y _ z _ h1 h2 h3 => by
    by_cases h : p y x < 0
    · exact h2 (tr _ _ _ h h3)
    · obtain rfl := eq x y h1 h
      exact h2 h3
  eq := fun x _ y _ => eq x y
theorem rkC_neg {l : List (List Val)} {a b : Int} : rkC l a b < 0 ↔ ordR (jAt l a) (jAt l b) < 0 ∨ (jAt l a = jAt l b ∧ a < b) := by
  unfold rkC
  rw [or2_neg, cmpInt_neg, ordR_zero]
  exact Iff.rfl
theorem ordR_lt_irr (a : List Val) : ¬ ordR a a < 0 := by rw [ordR_zero.2 rfl]; omega
theorem rk_irr (l : List (List Val)) (x : Int) : ¬ rkC l x x < 0 := by
  rw [rkC_neg]
  rintro (h | ⟨_, h⟩)
  · exact ordR_lt_irr _ h
  · omega
theorem rk_tr (l : List (List Val)) (x y z : Int) (h1 : rkC l x y < 0) (h2 : rkC l y z < 0) : rkC l x z < 0 := by
  rw [rkC_neg] at *
  rcases h1 with h1 | ⟨h1, g1⟩ <;> rcases h2 with h2 | ⟨h2, g2⟩
  · exact .inl (ordR_trans h1 h2)
  · rw [← h2]; exact .inl h1
  · rw [h1]; exact .inl h2
  · exact .inr ⟨h1.trans h2, by omega⟩
theorem rk_eq (l : List (List Val)) (x y : Int) (h1 : ¬ rkC l x y < 0) (h2 : ¬ rkC l y x < 0) : x = y := by
  rw [rkC_neg] at *
  have ha := ordR_anti (jAt l x) (jAt l y)
  have e : ordR (jAt l x) (jAt l y) = 0 := by
    have g1 : ¬ ordR (jAt l x) (jAt l y) < 0 := fun h => h1 (.inl h)
    have g2 : ¬ ordR (jAt l y) (jAt l x) < 0 := fun h => h2 (.inl h)
    omega
  rw [ordR_zero] at e
  have g1 : ¬ x < y := fun h => h1 (.inr ⟨e, h⟩)
  have g2 : ¬ y < x := fun h => h2 (.inr ⟨e.symm, h⟩)
  omega
theorem rk_uni (l : List (List Val)) (xs : List Int) : uniQ (rkC l) xs := uni_of (rk_irr l) (rk_tr l) (rk_eq l) xs
theorem prC_neg {x y : Int × Int} : prC x y < 0 ↔ x.1 < y.1 ∨ (x.1 = y.1 ∧ x.2 < y.2) := by
  unfold prC
  rw [or2_neg, cmpInt_neg, cmpInt_neg]
  have : Lib.compareInt x.1 y.1 = 0 ↔ x.1 = y.1 := by unfold Lib.compareInt; split <;> (try split) <;> omega
  rw [this]
theorem pr_uni (xs : List (Int × Int)) : uniQ prC xs := by
  refine uni_of (fun x => ?_) (fun x y z h1 h2 => ?_) (fun x y h1 h2 => ?_) xs
  · rw [prC_neg]; omega
  · rw [prC_neg] at *; omega
  · rw [prC_neg] at *
    obtain ⟨a, b⟩ := x
    obtain ⟨c, d⟩ := y
    simp only at h1 h2
    have e1 : a = c := by omega
    have e2 : b = d := by omega
    rw [e1, e2]
theorem perm_srtQ {α : Type} {le : α → α → Prop} : ∀ {l r : List α}, l.Perm r → l.Pairwise le → r.Pairwise le → (∀ a b, le a b → le b a → a = b) → l = r
  | [], r, hp, _, _, _ => (List.nil_perm.1 hp).symm
  | a :: l, [], hp, _, _, _ => by have := hp.length_eq; simp at this
  | a :: l, b :: r, hp, h1, h2, h3 => by
    obtain ⟨a1, a2⟩ := List.pairwise_cons.1 h1
    obtain ⟨b1, b2⟩ := List.pairwise_cons.1 h2
    have e : a = b := by
      have ha : a ∈ b :: r := hp.subset List.mem_cons_self
      have hb : b ∈ a :: l := hp.symm.subset List.mem_cons_self
      rcases List.mem_cons.1 ha with e | ha
      · exact e
      · rcases List.mem_cons.1 hb with e | hb
        · exact e.symm
        · exact h3 a b (a1 b hb) (b1 a ha)
    subst e
    rw [perm_srtQ (List.perm_cons a |>.1 hp) a2 b2 h3]
theorem sortQ_srt {β : Type} {p : β → β → Int} (tr : ∀ x y z, ¬ p y x < 0 → ¬ p z y < 0 → ¬ p z x < 0) (to : ∀ x y, ¬ p x y < 0 ∨ ¬ p y x < 0) (l : List β) : (sortQ p l).Pairwise fun a b => ¬ p b a < 0 := by
  have := List.pairwise_mergeSort (le := fun a b => !decide (p b a < 0)) (fun a b c h1 h2 => by
    simp only [Bool.not_eq_true', decide_eq_false_iff_not] at *
    exact tr a b c h1 h2) (fun a b => by
    rcases to a b with h | h <;> simp [h]) l
  refine this.imp fun {a b} h => ?_
  simpa using h
theorem rk_srt (l : List (List Val)) (xs : List Int) : (sortQ (rkC l) xs).Pairwise fun a b => ¬ rkC l b a < 0 :=
  sortQ_srt (fun x y z h1 h2 => (rk_uni l [x, y, z]).ntr z (by simp) y (by simp) x (by simp) h2 h1) (fun x y => by
    by_cases h : rkC l x y < 0
    · exact .inr fun h2 => rk_irr l x (rk_tr l x y x h h2)
    · exact .inl h) xs
theorem pr_srt (xs : List (Int × Int)) : (sortQ prC xs).Pairwise fun a b => ¬ prC b a < 0 :=
  sortQ_srt (fun x y z h1 h2 => (pr_uni [x, y, z]).ntr z (by simp) y (by simp) x (by simp) h2 h1) (fun x y => by rw [prC_neg, prC_neg]; omega) xs
def rkList (l : List (List Val)) : List Int := ((List.range l.length).filter fun i : Nat => wholeR (l.getD i [])).map fun i : Nat => (i : Int)
def joiner_ranked (l : List (List Val)) : List Int := sortQ (rkC l) (rkList l)
theorem rkList_len (l : List (List Val)) : (rkList l).length ≤ l.length := by
  unfold rkList
  rw [List.length_map]
  exact Nat.le_trans (List.length_filter_le _ _) (by rw [List.length_range]; exact Nat.le_refl _)
theorem rkList_in (l : List (List Val)) : jIn l (rkList l) := fun p hp => by
  unfold rkList at hp
  obtain ⟨i, hi, rfl⟩ := List.mem_map.1 hp
  have := (List.mem_filter.1 hi).1
  rw [List.mem_range] at this
  omega
theorem rank_perm (l : List (List Val)) : (joiner_ranked l).Perm (rkList l) := sortQ_perm _ _
theorem rank_in (l : List (List Val)) : jIn l (joiner_ranked l) := fun p hp => rkList_in l p ((rank_perm l).subset hp)
theorem rank_len (l : List (List Val)) : (joiner_ranked l).length ≤ l.length := by rw [(rank_perm l).length_eq]; exact rkList_len l
theorem ordR_lt_le {a b c : List Val} (h1 : ordR a b < 0) (h2 : ordR b c ≤ 0) : ordR a c < 0 := by
  by_cases e : ordR b c = 0
  · rw [ordR_zero] at e; rw [← e]; exact h1
  · exact ordR_trans h1 (by omega)
theorem rank_le (l : List (List Val)) {s t : Nat} (hst : s ≤ t) (ht : t < (joiner_ranked l).length) : ordR (jAt l ((joiner_ranked l).getD s 0)) (jAt l ((joiner_ranked l).getD t 0)) ≤ 0 := by
  by_cases e : s = t
  · subst e; rw [ordR_zero.2 rfl]; omega
  · have := List.pairwise_iff_getElem.1 (rk_srt l (rkList l)) s t (by show s < (joiner_ranked l).length; omega) ht (by omega)
    rw [rkC_neg] at this
    have hs : s < (joiner_ranked l).length := by omega
    rw [List.getD_eq_getElem?_getD, List.getElem?_eq_getElem hs, List.getD_eq_getElem?_getD, List.getElem?_eq_getElem ht]
    have h1 : ¬ ordR (jAt l ((joiner_ranked l)[t])) (jAt l ((joiner_ranked l)[s])) < 0 := fun h => this (.inl h)
    have h2 := ordR_anti (jAt l ((joiner_ranked l)[t])) (jAt l ((joiner_ranked l)[s]))
    show ordR (jAt l ((joiner_ranked l)[s])) (jAt l ((joiner_ranked l)[t])) ≤ 0
    omega
theorem run_facts (l : List (List Val)) {i : Nat} (hi : i < (joiner_ranked l).length) : 1 ≤ runN l (joiner_ranked l) i ∧ i + runN l (joiner_ranked l) i ≤ (joiner_ranked l).length ∧
    (∀ t, i ≤ t → t < i + runN l (joiner_ranked l) i → jAt l ((joiner_ranked l).getD t 0) = jAt l ((joiner_ranked l).getD i 0)) ∧
    ∀ t, i + runN l (joiner_ranked l) i ≤ t → t < (joiner_ranked l).length → ordR (jAt l ((joiner_ranked l).getD i 0)) (jAt l ((joiner_ranked l).getD t 0)) < 0 := by
  have hle := fun s t => rank_le l (s := s) (t := t)
  generalize joiner_ranked l = A at hi hle ⊢
  obtain ⟨n, hn⟩ : ∃ n, n = ((A.drop (i + 1)).takeWhile fun p => decide (jAt l (A.getD i 0) = jAt l p)).length := ⟨_, rfl⟩
  have hr : runN l A i = 1 + n := by rw [hn]; rfl
  have hpre : ((A.drop (i + 1)).takeWhile fun p => decide (jAt l (A.getD i 0) = jAt l p)) <+: A.drop (i + 1) := List.takeWhile_prefix _
  have hnl : n ≤ A.length - (i + 1) := by
    have := hpre.length_le
    rw [← hn, List.length_drop] at this
    exact this
  have hin : ∀ t, t < n → jAt l (A.getD i 0) = jAt l (A.getD (i + 1 + t) 0) := fun t ht => by
    have h1 := List.all_takeWhile (p := fun p => decide (jAt l (A.getD i 0) = jAt l p)) (l := A.drop (i + 1))
    have ht2 : t < ((A.drop (i + 1)).takeWhile fun p => decide (jAt l (A.getD i 0) = jAt l p)).length := by rw [← hn]; exact ht
    have h2 := List.all_eq_true.1 h1 _ (List.getElem_mem ht2)
    have h3 := hpre.getElem ht2
    rw [h3, decide_eq_true_eq, List.getElem_drop] at h2
    rw [List.getD_eq_getElem?_getD (i := i + 1 + t), List.getElem?_eq_getElem (by omega)]
    exact h2
  have hout : i + 1 + n < A.length → jAt l (A.getD i 0) ≠ jAt l (A.getD (i + 1 + n) 0) := fun h e => by
    have hd : (A.drop (i + 1)).dropWhile (fun p => decide (jAt l (A.getD i 0) = jAt l p)) = A.drop (i + 1 + n) := by
      have e1 := List.takeWhile_append_dropWhile (p := fun p => decide (jAt l (A.getD i 0) = jAt l p)) (l := A.drop (i + 1))
      have e2 := congrArg (List.drop n) e1
      rw [List.drop_append_of_le_length (by rw [← hn]; exact Nat.le_refl _), List.drop_of_length_le (by rw [← hn]; exact Nat.le_refl _), List.nil_append, List.drop_drop] at e2
      exact e2
    have h4 := List.head?_dropWhile_not (fun p => decide (jAt l (A.getD i 0) = jAt l p)) (A.drop (i + 1))
    rw [hd, List.head?_drop, List.getElem?_eq_getElem h] at h4
    simp only [decide_eq_false_iff_not] at h4
    rw [List.getD_eq_getElem?_getD (i := i + 1 + n), List.getElem?_eq_getElem h] at e
    exact h4 e
  rw [hr]
  refine ⟨by omega, by omega, fun t h1 h2 => ?_, fun t h1 h2 => ?_⟩
  · by_cases e : t = i
    · rw [e]
    · have := hin (t - (i + 1)) (by omega)
      rw [show i + 1 + (t - (i + 1)) = t by omega] at this
      exact this.symm
  · have g1 := hle i (i + 1 + n) (by omega) (by omega)
    have g2 := hout (by omega)
    have g3 := hle (i + 1 + n) t (by omega) h2
    refine ordR_lt_le ?_ g3
    have : ordR (jAt l (A.getD i 0)) (jAt l (A.getD (i + 1 + n) 0)) ≠ 0 := fun e => g2 (ordR_zero.1 e)
    omega
def keqJ (l r : List (List Val)) (x y : Int) : Bool := decide (jAt l x = jAt r y)
def rowJ (l r : List (List Val)) (B : List Int) (x : Int) : List (Int × Int) := (B.filter (keqJ l r x)).map fun y => (x, y)
def mergeM (l r : List (List Val)) : List (Int × Int) := (joiner_ranked l).flatMap (rowJ l r (joiner_ranked r))
theorem rowJ_len (l r : List (List Val)) (B : List Int) (x : Int) : (rowJ l r B x).length ≤ B.length := by
  unfold rowJ; rw [List.length_map]; exact List.length_filter_le _ _
theorem flatJ_len (l r : List (List Val)) (B : List Int) : ∀ A : List Int, (A.flatMap (rowJ l r B)).length ≤ A.length * B.length
  | [] => by simp
  | x :: A => by
    have h1 := flatJ_len l r B A
    have h2 := rowJ_len l r B x
    rw [List.flatMap_cons, List.length_append, List.length_cons, Nat.succ_mul]
    omega
theorem seg_get (L : List Int) : ∀ (n k : Nat), k + n ≤ L.length → (L.drop k).take n = (List.range n).map fun y => L.getD (k + y) 0
  | 0, k, _ => by simp
  | n + 1, k, h => by
    rw [List.take_add_one, seg_get L n k (by omega), List.range_succ, List.map_append, List.getElem?_drop, List.getElem?_eq_getElem (by omega)]
    simp [List.getD_eq_getElem?_getD, List.getElem?_eq_getElem (show k + n < L.length by omega)]
theorem row_run {l r : List (List Val)} {x : Int} {k : Nat} (hk : k < (joiner_ranked r).length) (hx : jAt l x = jAt r ((joiner_ranked r).getD k 0)) (hpre : ∀ y ∈ (joiner_ranked r).take k, ordR (jAt r y) (jAt l x) < 0) :
    rowJ l r (joiner_ranked r) x = (List.range (runN r (joiner_ranked r) k)).map fun y => (x, (joiner_ranked r).getD (k + y) 0) := by
  obtain ⟨_, f2, f3, f4⟩ := run_facts r hk
  generalize hB : joiner_ranked r = B at *
  generalize runN r B k = n at *
  have e : B = B.take k ++ ((B.drop k).take n ++ B.drop (k + n)) := by
    rw [← List.drop_drop, List.take_append_drop, List.take_append_drop]
  unfold rowJ
  have e1 : (B.take k).filter (keqJ l r x) = [] := by
    rw [List.filter_eq_nil_iff]
    intro y hy h
    have h1 := hpre y hy
    unfold keqJ at h
    rw [decide_eq_true_eq] at h
    rw [← h] at h1
    exact ordR_lt_irr _ h1
  have e2 : ((B.drop k).take n).filter (keqJ l r x) = (B.drop k).take n := by
    rw [List.filter_eq_self]
    intro y hy
    rw [seg_get B n k f2] at hy
    obtain ⟨t, ht, rfl⟩ := List.mem_map.1 hy
    rw [List.mem_range] at ht
    unfold keqJ
    rw [decide_eq_true_eq, hx, f3 (k + t) (by omega) (by omega)]
  have e3 : (B.drop (k + n)).filter (keqJ l r x) = [] := by
    rw [List.filter_eq_nil_iff]
    intro y hy h
    obtain ⟨t, ht, rfl⟩ := List.mem_iff_getElem.1 hy
    rw [List.length_drop] at ht
    have := f4 (k + n + t) (by omega) (by omega)
    rw [List.getD_eq_getElem?_getD (i := k + n + t), List.getElem?_eq_getElem (by omega)] at this
    unfold keqJ at h
    rw [decide_eq_true_eq, hx, List.getElem_drop] at h
    have h5 : jAt r (B.getD k 0) = jAt r ((some B[k + n + t]).getD 0) := h
    rw [h5] at this
    exact ordR_lt_irr _ this
  conv => lhs; rw [e]
  rw [List.filter_append, List.filter_append, e1, e2, e3, List.nil_append, List.append_nil, seg_get B n k f2, List.map_map]
  rfl
theorem row_none {l r : List (List Val)} {x : Int} {B : List Int} (h : ∀ y ∈ B, jAt l x ≠ jAt r y) : rowJ l r B x = [] := by
  unfold rowJ
  have : B.filter (keqJ l r x) = [] := by
    rw [List.filter_eq_nil_iff]
    intro y hy h2
    unfold keqJ at h2
    rw [decide_eq_true_eq] at h2
    exact h y hy h2
  rw [this]; rfl
theorem flat_none {l r : List (List Val)} {A B : List Int} (h : ∀ x ∈ A, ∀ y ∈ B, jAt l x ≠ jAt r y) : A.flatMap (rowJ l r B) = [] := by
  induction A with
  | nil => rfl
  | cons x A ih =>
    rw [List.flatMap_cons, row_none (h x List.mem_cons_self), ih fun y hy => h y (List.mem_cons_of_mem _ hy)]
    rfl
theorem row_rk (l r : List (List Val)) (i : Nat) (hw : wholeR (l.getD i []) = true) : rowJ l r (rkList r) (i : Int) = jRow l r i := by
  have key : ∀ n, ((((List.range n).filter fun k : Nat => wholeR (r.getD k [])).map fun k : Nat => (k : Int)).filter (keqJ l r (i : Int))).map (fun y => ((i : Int), y)) = ((List.range n).filter fun k : Nat => meetR (l.getD i []) (r.getD k [])).map fun k : Nat => ((i : Int), (k : Int)) := by
    intro n
    induction n with
    | zero => rfl
    | succ n ih =>
      rw [List.range_succ, List.filter_append, List.map_append, List.filter_append, List.map_append, ih, List.filter_append, List.map_append]
      congr 1
      have hk : keqJ l r (i : Int) (n : Int) = decide (l.getD i [] = r.getD n []) := rfl
      have hm : meetR (l.getD i []) (r.getD n []) = decide (l.getD i [] = r.getD n []) := by unfold meetR; rw [hw]; rfl
      by_cases e : l.getD i [] = r.getD n []
      · have hwr : wholeR (r.getD n []) = true := by rw [← e]; exact hw
        rw [List.filter_cons, if_pos hwr, List.filter_nil, List.map_cons, List.map_nil, List.filter_cons, if_pos (by rw [hk]; exact decide_eq_true e), List.filter_nil, List.filter_cons, if_pos (by rw [hm]; exact decide_eq_true e), List.filter_nil]
        rfl
      · rw [List.filter_cons (xs := []) (p := fun k : Nat => meetR (l.getD i []) (r.getD k [])), if_neg (by rw [hm, decide_eq_true_eq]; exact e)]
        cases hwr : wholeR (r.getD n []) with
        | true => rw [List.filter_cons, if_pos hwr, List.filter_nil, List.map_cons, List.map_nil, List.filter_cons, if_neg (by rw [hk, decide_eq_true_eq]; exact e)]; rfl
        | false => rw [List.filter_cons, if_neg (by rw [hwr]; simp)]; rfl
  exact key r.length
theorem flat_rk (l r : List (List Val)) : (rkList l).flatMap (rowJ l r (rkList r)) = jPairs l r := by
  have key : ∀ n, (((List.range n).filter fun i : Nat => wholeR (l.getD i [])).map fun i : Nat => (i : Int)).flatMap (rowJ l r (rkList r)) = (List.range n).flatMap (jRow l r) := by
    intro n
    induction n with
    | zero => rfl
    | succ n ih =>
      rw [List.range_succ, List.filter_append, List.map_append, List.flatMap_append, ih, List.flatMap_append]
      congr 1
      cases hw : wholeR (l.getD n []) with
      | true => rw [List.filter_cons, if_pos hw, List.filter_nil, List.map_cons, List.map_nil, List.flatMap_cons, row_rk l r n hw]; rfl
      | false =>
        rw [List.filter_cons, if_neg (by rw [hw]; simp)]
        have : jRow l r n = [] := by
          unfold jRow
          rw [List.filter_eq_nil_iff.2 fun k _ => by unfold meetR; rw [hw]; simp]
          rfl
        rw [List.flatMap_cons, this]; rfl
  exact key l.length
theorem perm_flat {α β : Type} {f g : α → List β} : ∀ (l : List α), (∀ x ∈ l, (f x).Perm (g x)) → (l.flatMap f).Perm (l.flatMap g)
  | [], _ => List.Perm.refl _
  | x :: l, h => by
    rw [List.flatMap_cons, List.flatMap_cons]
    exact (h x List.mem_cons_self).append (perm_flat l fun y hy => h y (List.mem_cons_of_mem _ hy))
theorem merge_perm (l r : List (List Val)) : (mergeM l r).Perm (jPairs l r) := by
  rw [← flat_rk]
  unfold mergeM
  refine ((rank_perm l).flatMap_right _).trans ?_
  refine perm_flat _ fun x _ => ?_
  unfold rowJ
  exact ((rank_perm r).filter _).map _
theorem jRow_srt (l r : List (List Val)) (i : Nat) : (jRow l r i).Pairwise fun x y => ¬ prC y x < 0 := by
  unfold jRow
  refine List.pairwise_map.2 (List.Pairwise.filter _ ?_)
  refine List.pairwise_lt_range.imp fun {a b} h => ?_
  rw [prC_neg]
  simp only
  omega
theorem jRow_fst {l r : List (List Val)} {i : Nat} {x : Int × Int} (h : x ∈ jRow l r i) : x.1 = (i : Int) := by
  unfold jRow at h
  obtain ⟨k, _, rfl⟩ := List.mem_map.1 h
  rfl
theorem jPairs_srt (l r : List (List Val)) : (jPairs l r).Pairwise fun x y => ¬ prC y x < 0 := by
  have key : ∀ n, ((List.range n).flatMap (jRow l r)).Pairwise fun x y => ¬ prC y x < 0 := by
    intro n
    induction n with
    | zero => exact List.Pairwise.nil
    | succ n ih =>
      rw [List.range_succ, List.flatMap_append]
      refine List.pairwise_append.2 ⟨ih, ?_, fun x hx y hy => ?_⟩
      · simpa using jRow_srt l r n
      · obtain ⟨i, hi, hx⟩ := List.mem_flatMap.1 hx
        rw [List.mem_range] at hi
        have hy : y ∈ jRow l r n := by simpa using hy
        have h1 := jRow_fst hx
        have h2 := jRow_fst hy
        rw [prC_neg]
        omega
  exact key l.length
theorem merge_sorted (l r : List (List Val)) : sortQ prC (mergeM l r) = jPairs l r :=
  perm_srtQ ((sortQ_perm _ _).trans (merge_perm l r)) (pr_srt _) (jPairs_srt l r) fun a b h1 h2 => (pr_uni [a, b]).eq a (by simp) b (by simp) h2 h1
end
end Go.Proofs.YtcmfdbjdbbpomaaDoor.B
namespace Go.Proofs.YtcmfdbjdbbpomaaDoor.B
open Go Go.RowKit Go.Shelf
set_option maxRecDepth 1000000
set_option linter.unusedVariables false
def ren_bb : Ren := ⟨fun | 167 => 33 | 240 => 44 | 276 => 59 | n => n, fun | 0 => 0 | 3 => 3 | 4 => 4 | 9 => 9 | 20 => 20 | 37 => 57 | 70 => 56 | 72 => 59 | 75 => 62 | 164 => 89 | 5 => 5 | 80 => 67 | n => n, fun | n => n⟩
theorem lays_bb : Lays.n167 Tryd.prog ren_bb := {
  mixed := by kernel_rfl
  f167 := Tryd.func33.trans (congrArg some (by kernel_rfl))
  f240 := Tryd.func44.trans (congrArg some (by kernel_rfl))
  f276 := Tryd.func59.trans (congrArg some (by kernel_rfl))
  t0 := Tryd.underlying0
  a0 := Tryd.isAgg0
  z0 := Tryd.sizeOf0
  v0 := Tryd.zeroValue0
  t5 := Tryd.underlying5
  a5 := Tryd.isAgg5
  z5 := Tryd.sizeOf5
  v5 := Tryd.zeroValue5
  t4 := Tryd.underlying4
  a4 := Tryd.isAgg4
  z4 := Tryd.sizeOf4
  v4 := Tryd.zeroValue4
  t9 := Tryd.underlying9
  a9 := Tryd.isAgg9
  z9 := Tryd.sizeOf9
  v9 := Tryd.zeroValue9
  t20 := Tryd.underlying20
  a20 := Tryd.isAgg20
  z20 := Tryd.sizeOf20
  v20 := Tryd.zeroValue20
  t37 := Tryd.underlying57
  a37 := Tryd.isAgg57
  z37 := Tryd.sizeOf57
  v37 := Tryd.zeroValue57
  t70 := Tryd.underlying56
  a70 := Tryd.isAgg56
  z70 := Tryd.sizeOf56
  v70 := Tryd.zeroValue56
  t72 := Tryd.underlying59
  a72 := Tryd.isAgg59
  z72 := Tryd.sizeOf59
  v72 := Tryd.zeroValue59
  t75 := Tryd.underlying62
  a75 := Tryd.isAgg62
  z75 := Tryd.sizeOf62
  v75 := Tryd.zeroValue62
  t164 := Tryd.underlying89
  a164 := Tryd.isAgg89
  z164 := Tryd.sizeOf89
  v164 := Tryd.zeroValue89 }
theorem extra_bb : Builder.Extra Tryd.prog ren_bb := {
  sizeBuilder := by kernel_rfl
  liesBuilder := by kernel_rfl
  t5 := Tryd.underlying5
  a5 := Tryd.isAgg5
  z5 := Tryd.sizeOf5
  v5 := Tryd.zeroValue5
  infoByte := by kernel_rfl
  cellsByte := by kernel_rfl
  sizeByte := by kernel_rfl
  neB5 := by decide }
theorem writeByte (B b : Nat) (bs : List Value) (c : Int) (w : World) (h : Lib.IsBuilderF 59 5 B b bs w) (hlen : bs.length + 1 ≤ 140737488355328) (hBw : B ≤ w.heap.size) :
    Calls Tryd.prog 33 #[.pointer (some ⟨b, 0, none⟩), .int .u8 c] w fun e w' => e = .returned .nilIface ∧ (Lib.BuilderAtF 59 5 B b (.pointer (some ⟨b, 0, none⟩)) (bs ++ [.int .u8 c]) w' ∧ Below B w w' ∧ Lib.OthersKept 5 (some b) w w') :=
  Any.Builder_WriteByte_k lays_bb extra_bb B b bs c w h hlen hBw
end Go.Proofs.YtcmfdbjdbbpomaaDoor.B
