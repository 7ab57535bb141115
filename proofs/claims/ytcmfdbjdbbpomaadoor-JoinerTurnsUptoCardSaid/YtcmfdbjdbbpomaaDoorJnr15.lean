/- Part 15 of the proof: Sjoiner1 Lord. -/
import Derived.Deep.RegionHeld3
import Derived.Sort.Grow
import Derived.Test.YtcmfdbjdbbpomaaDoorJnr14
namespace Go.Proofs.YtcmfdbjdbbpomaaDoor.B
open Go Go.RowKit
set_option maxRecDepth 100000
noncomputable section
attribute [local irreducible] awp ctxK itersK iterK retQ retGQ awf ctxF loopF
def M_jw1 : Mc Un := mach (tbl []) (tbl []) (tbl []) (tbl []) (tbl [])
def A_jw1 (r : Bool) : List (A Un) := [.c (.s (.bool r))]
def O_jw1 (_r : Bool) : List (Ob Un) := []
def R_jw1 (r : Bool) : RF Un := (A_jw1 r, O_jw1 r)
def N_jw1 : Nat → NS := fun l => (look l []).getD ⟨[], [], [], [], [], true⟩
def jw1_fn (v : Val) : Option (RF Un) := awf M_jw1 N_jw1 (bodyOf Tryd.f30) (entry Tryd.f30.ntmps 0 [.d (.agg (enc Ty.val v))]) (retF M_jw1 Tryd.f30.results.toList [.d])
theorem jw1_in (v : Val) : jw1_fn v =
 some (R_jw1 (v.kind == 0)) := by kernel_rfl
def jw1 (v : Val) : Bool :=
  (v.kind == (0 : Int))
theorem jw1_eq (v : Val) : jw1_fn v = some (R_jw1 (jw1 v)) := by rw [jw1_in]; unfold jw1; simp only [cndO_eq]; repeat (first | rfl | split)
def F_jw1 : FnC Un := fun args => match args with
  | [x0] => (dS .val x0).bind fun v => some ([], A_jw1 (jw1 v), O_jw1 (jw1 v))
  | _ => none
theorem ok_jw1 : FnOK 30 F_jw1 := by
  intro args ob rs os h hob
  unfold F_jw1 at h
  split at h
  · simp only [Option.bind_eq_some_iff, Option.some.injEq, Prod.mk.injEq] at h
    obtain ⟨v, e0, rfl, rfl, rfl⟩ := h
    obtain rfl := dS_eq e0
    exact ⟨fn_contractF (M := M_jw1) rfl (tbl_ok (l1 := []) (l2 := []) (l3 := []) (l4 := []) (l5 := []) trivial trivial trivial trivial trivial) Tryd.func30 (by kernel_rfl) N_jw1 0 [.d] (fun hwf => (jw1_eq v)), hasBody_of Tryd.func30 (by kernel_rfl) (by kernel_rfl)⟩
  · simp at h
def V_jw1 : FV Un := fvo_S_val_to_b (fun v => True) (fun v => jw1 v)
theorem okV_jw1 : FvOK 30 V_jw1 := by
  refine ⟨hasBody_of Tryd.func30 (by kernel_rfl) (by kernel_rfl), fun args ob rs h hob => ?_⟩
  unfold V_jw1 fvo_S_val_to_b at h
  split at h
  · simp only [Option.bind_eq_some_iff, Option.some.injEq, Prod.mk.injEq] at h
    obtain ⟨v, e0, rfl, rfl⟩ := h
    simp only [List.map_cons, List.map_nil]
    rw [dS_eq e0]
    refine Contract.data (ok_jw1 _ ([]) _ _ (?_ : F_jw1 _ = some _) (by simp)).1
    unfold F_jw1
    simp only [dSk_mk]
    rfl
  · simp at h
def M_joiner_whole : Mc Un := mach (tbl [(29, F_conf_val)]) (tbl [(30, V_jw1)]) (tbl []) (tbl []) (tbl [])
def A_joiner_whole (r : Bool) : List (A Un) := [.c (.s (.bool r))]
def O_joiner_whole (_r : Bool) : List (Ob Un) := []
def R_joiner_whole (r : Bool) : RF Un := (A_joiner_whole r, O_joiner_whole r)
def N_joiner_whole : Nat → NS := fun l => (look l []).getD ⟨[], [], [], [], [], true⟩
def joiner_whole_fn (r : List Val) : Option (RF Un) := awf M_joiner_whole N_joiner_whole (bodyOf Tryd.f18) (entry Tryd.f18.ntmps 0 [.d (.v (.dat (U := Un) Ty.val r))]) (retF M_joiner_whole Tryd.f18.results.toList [.d])
theorem joiner_whole_in (r : List Val) : joiner_whole_fn r =
 obO (V_jw1 = fvo_S_val_to_b (po_S_val_to_b V_jw1) (pf_S_val_to_b V_jw1))
  (obO (allO_val (po_S_val_to_b V_jw1) r)
   (some (R_joiner_whole (!conf_val r (po_S_val_to_b V_jw1) (pf_S_val_to_b V_jw1))))) := by kernel_rfl
def wholeR (r : List Val) : Bool := r.all fun v => !(v.kind == 0)
def joiner_whole (r : List Val) : Bool := wholeR r
theorem joiner_whole_spec (r : List Val) (_hr : WL .val r) : joiner_whole_fn r = some (R_joiner_whole (joiner_whole r)) := by
  rw [joiner_whole_in]
  have o1 : po_S_val_to_b V_jw1 = fun _ => True := by unfold V_jw1; exact pofvo_S_val_to_b _ _
  have o2 : pf_S_val_to_b V_jw1 = jw1 := by unfold V_jw1; exact pffvo_S_val_to_b _ _
  have o3 : V_jw1 = fvo_S_val_to_b (po_S_val_to_b V_jw1) (pf_S_val_to_b V_jw1) := by rw [o1, o2]; rfl
  rw [obO_pos o3, o1, o2, obO_pos (show allO_val _ r from fun x hx => trivial)]
  unfold joiner_whole wholeR conf_val
  congr 2
  clear _hr
  induction r with
  | nil => rfl
  | cons x l ih =>
    rw [List.any_cons, List.all_cons, Bool.not_or, ih]
    rfl
def F_joiner_whole : FnC Un := fun args => match args with
  | [x0] => (dL .val x0).bind fun r => some ([], A_joiner_whole (joiner_whole r), O_joiner_whole (joiner_whole r))
  | _ => none
theorem ok_joiner_whole : FnOK 18 F_joiner_whole := by
  intro args ob rs os h hob
  unfold F_joiner_whole at h
  split at h
  · simp only [Option.bind_eq_some_iff, Option.some.injEq, Prod.mk.injEq] at h
    obtain ⟨r, e0, rfl, rfl, rfl⟩ := h
    obtain rfl := dL_eq e0
    exact ⟨fn_contractF (M := M_joiner_whole) rfl (tbl_ok (l1 := [(29, F_conf_val)]) (l2 := [(30, V_jw1)]) (l3 := []) (l4 := []) (l5 := []) ⟨ok_conf_val, trivial⟩ ⟨okV_jw1, trivial⟩ trivial trivial trivial) Tryd.func18 (by kernel_rfl) N_joiner_whole 0 [.d] (fun hwf => (joiner_whole_spec r (wfArg hwf (a := .d (.v (.dat (U := Un) Ty.val r))) (List.mem_of_getElem? (i := 0) rfl)))), hasBody_of Tryd.func18 (by kernel_rfl) (by kernel_rfl)⟩
  · simp at h
def M_joiner_meet : Mc Un := mach (tbl [(18, F_joiner_whole), (14, F_value_Orders)]) (tbl []) (tbl []) (tbl []) (tbl [])
def A_joiner_meet (r : Bool) : List (A Un) := [.c (.s (.bool r))]
def O_joiner_meet (_r : Bool) : List (Ob Un) := []
def R_joiner_meet (r : Bool) : RF Un := (A_joiner_meet r, O_joiner_meet r)
def N_joiner_meet : Nat → NS := fun l => (look l []).getD ⟨[], [], [], [], [], true⟩
def joiner_meet_fn (a : List Val) (b : List Val) : Option (RF Un) := awf M_joiner_meet N_joiner_meet (bodyOf Tryd.f17) (entry Tryd.f17.ntmps 0 [.d (.v (.dat (U := Un) Ty.val a)), .d (.v (.dat (U := Un) Ty.val b))]) (retF M_joiner_meet Tryd.f17.results.toList [.d])
theorem joiner_meet_in (a : List Val) (b : List Val) : joiner_meet_fn a b =
 cndO (joiner_whole a)
  (cndO (joiner_whole b)
   (some (R_joiner_meet (value_Orders a b == 0)))
   (some (R_joiner_meet (false))))
  (some (R_joiner_meet (false))) := by kernel_rfl
def meetR (a b : List Val) : Bool := wholeR a && decide (a = b)
def joiner_meet (a b : List Val) : Bool := meetR a b
theorem ordR_eq0 (a b : List Val) : (ordR a b == 0) = decide (a = b) := by
  rw [Bool.eq_iff_iff, beq_iff_eq, decide_eq_true_eq]
  exact ordR_zero
theorem joiner_meet_spec (a b : List Val) (_ha : WL .val a) (_hb : WL .val b) : joiner_meet_fn a b = some (R_joiner_meet (joiner_meet a b)) := by
  rw [joiner_meet_in]
  unfold joiner_meet meetR joiner_whole value_Orders
  rw [ordR_eq0]
  simp only [cndO_eq]
  by_cases e : a = b
  · subst e
    cases h : wholeR a <;> simp [h]
  · cases wholeR a <;> cases wholeR b <;> simp [e]
def F_joiner_meet : FnC Un := fun args => match args with
  | [x0, x1] => (dL .val x0).bind fun a => (dL .val x1).bind fun b => some ([], A_joiner_meet (joiner_meet a b), O_joiner_meet (joiner_meet a b))
  | _ => none
theorem ok_joiner_meet : FnOK 17 F_joiner_meet := by
  intro args ob rs os h hob
  unfold F_joiner_meet at h
  split at h
  · simp only [Option.bind_eq_some_iff, Option.some.injEq, Prod.mk.injEq] at h
    obtain ⟨a, e0, b, e1, rfl, rfl, rfl⟩ := h
    obtain rfl := dL_eq e0
    obtain rfl := dL_eq e1
    exact ⟨fn_contractF (M := M_joiner_meet) rfl (tbl_ok (l1 := [(18, F_joiner_whole), (14, F_value_Orders)]) (l2 := []) (l3 := []) (l4 := []) (l5 := []) ⟨ok_joiner_whole, ok_value_Orders, trivial⟩ trivial trivial trivial trivial) Tryd.func17 (by kernel_rfl) N_joiner_meet 0 [.d] (fun hwf => (joiner_meet_spec a b (wfArg hwf (a := .d (.v (.dat (U := Un) Ty.val a))) (List.mem_of_getElem? (i := 0) rfl)) (wfArg hwf (a := .d (.v (.dat (U := Un) Ty.val b))) (List.mem_of_getElem? (i := 1) rfl)))), hasBody_of Tryd.func17 (by kernel_rfl) (by kernel_rfl)⟩
  · simp at h
def M_joiner_Nest : Mc Un := mach (tbl [(17, F_joiner_meet)]) (tbl []) (tbl []) (tbl []) (tbl [])
def A_joiner_Nest (r : (List (Int × Int))) : List (A Un) := [.c (.sl (U := Un) Ty.pair r false)]
def O_joiner_Nest (_r : (List (Int × Int))) : List (Ob Un) := []
def R_joiner_Nest (r : (List (Int × Int))) : RF Un := (A_joiner_Nest r, O_joiner_Nest r)
def N_joiner_Nest : Nat → NS := fun l => (look l [(3, { ts := bl 36 1571, bs := bl 36 0, nm := [(.sl 5, 144)], cs := true }), (6, { ts := bl 36 50787, bs := bl 36 0, nm := [(.sl 5, 145)], cs := true })]).getD ⟨[], [], [], [], [], true⟩
def joiner_Nest_s3 (l : List (List Val)) (r : List (List Val)) (v0 : Int) (v1 : List (Int × Int)) : S Un := (st 36 36 146 0 [(0, al .row l), (1, al .row r), (5, ao 144), (9, ai (↑l.length : Int)), (10, ai v0)] [] [(144, some ⟨(0 : Nat), Ty.pair, v1, some (0 : Nat), true⟩)])
def joiner_Nest_s6 (l : List (List Val)) (r : List (List Val)) (v0 : Int) (v1 : List (Int × Int)) (v2 : Int) : S Un := (st 36 36 146 0 [(0, al .row l), (1, al .row r), (5, ao 145), (6, ai v0), (9, ai (↑l.length : Int)), (10, ai v0), (14, ai (↑r.length : Int)), (15, ai v2)] [] [(145, some ⟨(0 : Nat), Ty.pair, v1, some (0 : Nat), true⟩)])
noncomputable def joiner_Nest_B3 : Code := sub (bodyOf Tryd.f9) [1, 1, 0, 1, 2, 2]
def joiner_Nest_L3 : S Un → Option (EX Un) := loopF (N_joiner_Nest 3) (fun s Q => awf M_joiner_Nest N_joiner_Nest joiner_Nest_B3 s Q)
noncomputable def joiner_Nest_B6 : Code := sub (sub (bodyOf Tryd.f9) [1, 1, 0, 1, 2, 2]) [1, 1, 0, 2, 1, 1, 2, 2]
def joiner_Nest_L6 : S Un → Option (EX Un) := loopF (N_joiner_Nest 6) (fun s Q => awf M_joiner_Nest N_joiner_Nest joiner_Nest_B6 s Q)
def joiner_Nest_C3 : Exit → S Un → Option (RF Un) := ctxF M_joiner_Nest N_joiner_Nest (bodyOf Tryd.f9) [1, 1, 0, 1, 2] (retF M_joiner_Nest Tryd.f9.results.toList [.d])
def joiner_Nest_C6 : Exit → S Un → Option (EX Un) := ctxF M_joiner_Nest N_joiner_Nest joiner_Nest_B3 [1, 1, 0, 2, 1, 1, 2] (roundF (N_joiner_Nest 3) joiner_Nest_L3)
def joiner_Nest_fn (l : List (List Val)) (r : List (List Val)) : Option (RF Un) := awf M_joiner_Nest N_joiner_Nest (bodyOf Tryd.f9) (entry Tryd.f9.ntmps 2 [.d (.v (.dat (U := Un) Ty.row l)), .d (.v (.dat (U := Un) Ty.row r))]) (retF M_joiner_Nest Tryd.f9.results.toList [.d])
theorem joiner_Nest_in (l : List (List Val)) (r : List (List Val)) : joiner_Nest_fn l r =
 (joiner_Nest_L3 (joiner_Nest_s3 l r (0 : Int) ([]))).bind (thenX joiner_Nest_C3) := by kernel_rfl
theorem joiner_Nest_l3 (l : List (List Val)) (r : List (List Val)) (v0 : Int) (v1 : List (Int × Int)) : joiner_Nest_L3 (joiner_Nest_s3 l r v0 v1) =
 cndO (decide (v0 < (↑l.length : Int)))
  ((joiner_Nest_L6 (joiner_Nest_s6 l r v0 v1 (0 : Int))).bind (thenX joiner_Nest_C6))
  (some (.exit 0, (joiner_Nest_s3 l r v0 v1))) := (loopF_eq (N_joiner_Nest 3) joiner_Nest_B3 _).trans (by kernel_rfl)
theorem joiner_Nest_a3_x0 (l : List (List Val)) (r : List (List Val)) (v0 : Int) (v1 : List (Int × Int)) : joiner_Nest_C3 (.exit 0) (joiner_Nest_s3 l r v0 v1) =
 some (R_joiner_Nest (v1)) := by kernel_rfl
theorem joiner_Nest_l6 (l : List (List Val)) (r : List (List Val)) (v0 : Int) (v1 : List (Int × Int)) (v2 : Int) : joiner_Nest_L6 (joiner_Nest_s6 l r v0 v1 v2) =
 cndO (decide (v2 < (↑r.length : Int)))
  (obO (0 ≤ v0 ∧ v0 < (↑l.length : Int))
   (obO (0 ≤ v2 ∧ v2 < (↑r.length : Int))
    (cndO (joiner_meet (l.getD v0.toNat []) (r.getD v2.toNat []))
     (obO ((v1.length + [(v0, v2)].length) * (16 : Nat) ≤ roomB)
      (joiner_Nest_L6 (joiner_Nest_s6 l r v0 (v1 ++ [(v0, v2)]) (IntKind.i64.wrap (v2 + 1)))))
     (joiner_Nest_L6 (joiner_Nest_s6 l r v0 v1 (IntKind.i64.wrap (v2 + 1)))))))
  (some (.exit 2, (joiner_Nest_s6 l r v0 v1 v2))) := (loopF_eq (N_joiner_Nest 6) joiner_Nest_B6 _).trans (by kernel_rfl)
theorem joiner_Nest_a6_x2 (l : List (List Val)) (r : List (List Val)) (v0 : Int) (v1 : List (Int × Int)) (v2 : Int) : joiner_Nest_C6 (.exit 2) (joiner_Nest_s6 l r v0 v1 v2) =
 joiner_Nest_L3 (joiner_Nest_s3 l r (IntKind.i64.wrap (v0 + 1)) v1) := by kernel_rfl
def jRow (l r : List (List Val)) (i : Nat) : List (Int × Int) := ((List.range r.length).filter fun k : Nat => meetR (l.getD i []) (r.getD k [])).map fun k : Nat => ((i : Int), (k : Int))
def jPairs (l r : List (List Val)) : List (Int × Int) := (List.range l.length).flatMap (jRow l r)
def jBound (l r : List (List Val)) : Prop := l.length ≤ 1000000 ∧ r.length ≤ 1000000
theorem jRow_len (l r : List (List Val)) (i : Nat) : (jRow l r i).length ≤ r.length := by
  unfold jRow
  rw [List.length_map]
  exact Nat.le_trans (List.length_filter_le _ _) (by rw [List.length_range]; exact Nat.le_refl _)
theorem jPart_len (l r : List (List Val)) : ∀ n, ((List.range n).flatMap (jRow l r)).length ≤ n * r.length
  | 0 => by simp
  | n + 1 => by
    have := jPart_len l r n
    have h2 := jRow_len l r n
    rw [List.range_succ, List.flatMap_append, List.length_append, Nat.succ_mul]
    simp only [List.flatMap_cons, List.flatMap_nil, List.append_nil]
    omega
theorem nest_loop {l r : List (List Val)} {L3 L6 : S Un → Option (EX Un)} {s3 : Int → List (Int × Int) → S Un} {s6 : Int → List (Int × Int) → Int → S Un} {C6 : Exit → S Un → Option (EX Un)} {m : List Val → List Val → Bool} (hm : ∀ a b, m a b = meetR a b) (hb : jBound l r)
    (e6 : ∀ v0 v1 v2, L6 (s6 v0 v1 v2) = cndO (decide (v2 < (r.length : Int))) (obO (0 ≤ v0 ∧ v0 < (l.length : Int)) (obO (0 ≤ v2 ∧ v2 < (r.length : Int)) (cndO (m (l.getD v0.toNat []) (r.getD v2.toNat [])) (obO ((v1.length + [(v0, v2)].length) * (16 : Nat) ≤ roomB) (L6 (s6 v0 (v1 ++ [(v0, v2)]) (IntKind.i64.wrap (v2 + 1))))) (L6 (s6 v0 v1 (IntKind.i64.wrap (v2 + 1))))))) (some (.exit 2, s6 v0 v1 v2)))
    (e3 : ∀ v0 v1, L3 (s3 v0 v1) = cndO (decide (v0 < (l.length : Int))) ((L6 (s6 v0 v1 (0 : Int))).bind (thenX C6)) (some (.exit 0, s3 v0 v1)))
    (x6 : ∀ v0 v1 v2, C6 (.exit 2) (s6 v0 v1 v2) = L3 (s3 (IntKind.i64.wrap (v0 + 1)) v1)) : L3 (s3 (0 : Int) []) = some (.exit 0, s3 (l.length : Int) (jPairs l r)) := by
  obtain ⟨hb1, hb2⟩ := hb
  obtain ⟨o, ho, L1⟩ := loop_inv (L := L3) (st := fun (o : List (Int × Int)) i => s3 i o) (n := l.length) (by omega) (fun i o => o = (List.range i).flatMap (jRow l r)) (e := .exit 0)
    (fun o i hi hI => by
      obtain ⟨o2, ho2, L2⟩ := loop_inv (L := L6) (st := fun (o : List (Int × Int)) k => s6 (i : Int) o k) (n := r.length) (by omega) (fun k o2 => o2 = o ++ ((List.range k).filter fun k : Nat => meetR (l.getD i []) (r.getD k [])).map fun k : Nat => ((i : Int), (k : Int))) (e := .exit 2)
        (fun o2 k hk hI2 => by
          have hln : o2.length ≤ l.length * r.length := by
            have h1 := jPart_len l r i
            have h2 : ((List.range k).filter fun k : Nat => meetR (l.getD i []) (r.getD k [])).length ≤ k := Nat.le_trans (List.length_filter_le _ _) (by rw [List.length_range]; exact Nat.le_refl _)
            have h3 : i * r.length + k ≤ l.length * r.length := by
              have : (i + 1) * r.length ≤ l.length * r.length := Nat.mul_le_mul_right _ hi
              rw [Nat.succ_mul] at this; omega
            rw [hI2, hI, List.length_append, List.length_map]
            omega
          have hmul : l.length * r.length ≤ 1000000 * 1000000 := Nat.mul_le_mul hb1 hb2
          rw [e6]
          simp only [Int.toNat_natCast, cndO_eq]
          rw [if_pos (by simp; omega), obO_pos (by omega), obO_pos (by omega), hm]
          by_cases c : meetR (l.getD i []) (r.getD k []) = true
          · refine ⟨o2 ++ [((i : Int), (k : Int))], ?_, ?_⟩
            · rw [hI2, List.range_succ, List.filter_append, List.map_append, List.append_assoc, List.filter_cons, if_pos c]
              rfl
            · rw [if_pos c, obO_pos (by unfold roomB; rw [List.length_singleton]; omega)]
          · refine ⟨o2, ?_, ?_⟩
            · rw [hI2, List.range_succ, List.filter_append, List.map_append, List.filter_cons, if_neg c, List.filter_nil, List.map_nil, List.append_nil]
            · rw [if_neg c])
        (fun o2 _ => by
          rw [e6]
          simp [cndO_eq]) o (by simp)
      refine ⟨o2, ?_, ?_⟩
      · rw [ho2, hI, List.range_succ, List.flatMap_append]
        simp [jRow]
      · rw [e3, cndO_eq, if_pos (by simp; omega), loop_end L2, x6])
    (fun o _ => by
      rw [e3]
      simp [cndO_eq]) [] rfl
  rw [ho] at L1
  exact L1
def joiner_Nest (l r : List (List Val)) : List (Int × Int) := jPairs l r
theorem joiner_Nest_spec (l r : List (List Val)) (_hl : WL .row l) (_hr : WL .row r) (h : jBound l r) : joiner_Nest_fn l r = some (R_joiner_Nest (joiner_Nest l r)) := by
  rw [joiner_Nest_in]
  have := nest_loop (l := l) (r := r) (L3 := joiner_Nest_L3) (L6 := joiner_Nest_L6) (s3 := joiner_Nest_s3 l r) (s6 := joiner_Nest_s6 l r) (C6 := joiner_Nest_C6) (m := joiner_meet) (fun _ _ => rfl) h (joiner_Nest_l6 l r) (joiner_Nest_l3 l r) (joiner_Nest_a6_x2 l r)
  rw [loop_end this, joiner_Nest_a3_x0]
  rfl
def F_joiner_Nest : FnC Un := fun args => match args with
  | [x0, x1] => (dL .row x0).bind fun l => (dL .row x1).bind fun r => some ([jBound l r], A_joiner_Nest (joiner_Nest l r), O_joiner_Nest (joiner_Nest l r))
  | _ => none
theorem ok_joiner_Nest : FnOK 9 F_joiner_Nest := by
  intro args ob rs os h hob
  unfold F_joiner_Nest at h
  split at h
  · simp only [Option.bind_eq_some_iff, Option.some.injEq, Prod.mk.injEq] at h
    obtain ⟨l, e0, r, e1, rfl, rfl, rfl⟩ := h
    obtain rfl := dL_eq e0
    obtain rfl := dL_eq e1
    exact ⟨fn_contractF (M := M_joiner_Nest) rfl (tbl_ok (l1 := [(17, F_joiner_meet)]) (l2 := []) (l3 := []) (l4 := []) (l5 := []) ⟨ok_joiner_meet, trivial⟩ trivial trivial trivial trivial) Tryd.func9 (by kernel_rfl) N_joiner_Nest 2 [.d] (fun hwf => (joiner_Nest_spec l r (wfArg hwf (a := .d (.v (.dat (U := Un) Ty.row l))) (List.mem_of_getElem? (i := 0) rfl)) (wfArg hwf (a := .d (.v (.dat (U := Un) Ty.row r))) (List.mem_of_getElem? (i := 1) rfl)) (hob _ (List.mem_of_getElem? (i := 0) rfl)))), hasBody_of Tryd.func9 (by kernel_rfl) (by kernel_rfl)⟩
  · simp at h
def M_joiner_run : Mc Un := mach (tbl [(14, F_value_Orders)]) (tbl []) (tbl []) (tbl []) (tbl [])
def A_joiner_run (r : Int) : List (A Un) := [.c (.s (.int .i64 r))]
def O_joiner_run (_r : Int) : List (Ob Un) := []
def R_joiner_run (r : Int) : RF Un := (A_joiner_run r, O_joiner_run r)
def N_joiner_run : Nat → NS := fun l => (look l [(2, { ts := bl 37 135, bs := bl 37 0, nm := [], cs := true })]).getD ⟨[], [], [], [], [], true⟩
def joiner_run_s2 (l : List (List Val)) (at_ : List Int) (from_ : Int) (v0 : Int) : S Un := (st 37 37 148 0 [(0, al .row l), (1, al .int at_), (2, ai from_), (7, ai v0)] [] [])
noncomputable def joiner_run_B2 : Code := sub (bodyOf Tryd.f21) [1, 1, 0, 2, 2]
def joiner_run_L2 : S Un → Option (EX Un) := loopF (N_joiner_run 2) (fun s Q => awf M_joiner_run N_joiner_run joiner_run_B2 s Q)
def joiner_run_C2 : Exit → S Un → Option (RF Un) := ctxF M_joiner_run N_joiner_run (bodyOf Tryd.f21) [1, 1, 0, 2] (retF M_joiner_run Tryd.f21.results.toList [.d])
def joiner_run_fn (l : List (List Val)) (at_ : List Int) (from_ : Int) : Option (RF Un) := awf M_joiner_run N_joiner_run (bodyOf Tryd.f21) (entry Tryd.f21.ntmps 0 [.d (.v (.dat (U := Un) Ty.row l)), .d (.v (.dat (U := Un) Ty.int at_)), .d (.v (.s (.int .i64 from_)))]) (retF M_joiner_run Tryd.f21.results.toList [.d])
theorem joiner_run_in (l : List (List Val)) (at_ : List Int) (from_ : Int) : joiner_run_fn l at_ from_ =
 (joiner_run_L2 (joiner_run_s2 l at_ from_ (1 : Int))).bind (thenX joiner_run_C2) := by kernel_rfl
theorem joiner_run_l2 (l : List (List Val)) (at_ : List Int) (from_ : Int) (v0 : Int) : joiner_run_L2 (joiner_run_s2 l at_ from_ v0) =
 cndO (decide (IntKind.i64.wrap (from_ + v0) < (↑at_.length : Int)))
  (obO (0 ≤ from_ ∧ from_ < (↑at_.length : Int))
   (obO (0 ≤ at_.getD from_.toNat (0 : Int) ∧ at_.getD from_.toNat (0 : Int) < (↑l.length : Int))
    (obO (0 ≤ IntKind.i64.wrap (from_ + v0) ∧ IntKind.i64.wrap (from_ + v0) < (↑at_.length : Int))
     (obO (0 ≤ at_.getD (IntKind.i64.wrap (from_ + v0)).toNat (0 : Int) ∧ at_.getD (IntKind.i64.wrap (from_ + v0)).toNat (0 : Int) < (↑l.length : Int))
      (cndO (value_Orders (l.getD (Int.toNat (at_.getD from_.toNat (0 : Int))) []) (l.getD (Int.toNat (at_.getD (IntKind.i64.wrap (from_ + v0)).toNat (0 : Int))) []) == 0)
       (joiner_run_L2 (joiner_run_s2 l at_ from_ (IntKind.i64.wrap (v0 + 1))))
       (some (.exit 0, (joiner_run_s2 l at_ from_ v0))))))))
  (some (.exit 0, (joiner_run_s2 l at_ from_ v0))) := (loopF_eq (N_joiner_run 2) joiner_run_B2 _).trans (by kernel_rfl)
theorem joiner_run_a2_x0 (l : List (List Val)) (at_ : List Int) (from_ : Int) (v0 : Int) : joiner_run_C2 (.exit 0) (joiner_run_s2 l at_ from_ v0) =
 some (R_joiner_run (v0)) := by kernel_rfl
def jAt (l : List (List Val)) (p : Int) : List Val := l.getD p.toNat []
def jIn (l : List (List Val)) (at_ : List Int) : Prop := ∀ p ∈ at_, 0 ≤ p ∧ p < (l.length : Int)
theorem jIn.at {l : List (List Val)} {at_ : List Int} (h : jIn l at_) {i : Nat} (hi : i < at_.length) : 0 ≤ at_.getD i 0 ∧ at_.getD i 0 < (l.length : Int) := by
  rw [List.getD_eq_getElem?_getD, List.getElem?_eq_getElem hi]
  exact h _ (List.getElem_mem hi)
def runN (l : List (List Val)) (at_ : List Int) (i : Nat) : Nat := 1 + ((at_.drop (i + 1)).takeWhile fun p => decide (jAt l (at_.getD i 0) = jAt l p)).length
def joiner_run (l : List (List Val)) (at_ : List Int) (from_ : Int) : Int := (runN l at_ from_.toNat : Int)
theorem joiner_run_spec (l : List (List Val)) (at_ : List Int) (from_ : Int) (_hl : WL .row l) (ha : WL .int at_) (_hf : WI from_) (h : (0 ≤ from_ ∧ from_ < (at_.length : Int)) ∧ jIn l at_) : joiner_run_fn l at_ from_ = some (R_joiner_run (joiner_run l at_ from_)) := by
  obtain ⟨⟨h0, h1⟩, hin⟩ := h
  obtain ⟨i, rfl⟩ : ∃ i : Nat, from_ = (i : Int) := ⟨from_.toNat, by omega⟩
  have hal := ha.len
  have hi : i < at_.length := by omega
  have key : ∀ (r : List Int) (k : Nat), at_.drop (i + k) = r → i + k ≤ at_.length → joiner_run_L2 (joiner_run_s2 l at_ (i : Int) (k : Int)) = some (.exit 0, joiner_run_s2 l at_ (i : Int) ((k + (r.takeWhile fun p => decide (jAt l (at_.getD i 0) = jAt l p)).length : Nat) : Int)) := by
    intro r
    induction r with
    | nil =>
      intro k e hk
      have n1 : at_.length ≤ i + k := List.drop_eq_nil_iff.1 e
      rw [joiner_run_l2, wrap_id (by omega), cndO_eq, if_neg (by rw [decide_eq_true_eq]; omega)]
      rfl
    | cons p r ih =>
      intro k e hk
      obtain ⟨a1, a2, a3, _⟩ := drop_cons e
      have a2' : at_.getD (i + k) 0 = p := a2 _
      have hp := hin.at a1
      rw [a2'] at hp
      have hf := hin.at hi
      have ew : ((i : Int) + (k : Int)).toNat = i + k := by omega
      rw [joiner_run_l2, wrap_id (by omega)]
      simp only [cndO_eq, Int.toNat_natCast, ew, a2']
      rw [if_pos (by rw [decide_eq_true_eq]; omega), obO_pos (by omega), obO_pos hf, obO_pos (by omega), obO_pos hp]
      unfold value_Orders
      rw [ordR_eq0, wrap_id (by omega)]
      by_cases c : jAt l (at_.getD i 0) = jAt l p
      · have c' : l.getD (at_.getD i 0).toNat [] = l.getD p.toNat [] := c
        rw [if_pos (by rw [decide_eq_true_eq]; exact c'), show ((k : Int) + 1) = ((k + 1 : Nat) : Int) by omega, ih (k + 1) (by rw [← a3]; rfl) (by omega), List.takeWhile_cons, if_pos (by rw [decide_eq_true_eq]; exact c), List.length_cons]
        congr 4; omega
      · have c' : ¬ l.getD (at_.getD i 0).toNat [] = l.getD p.toNat [] := c
        rw [if_neg (by rw [decide_eq_true_eq]; exact c'), List.takeWhile_cons, if_neg (by rw [decide_eq_true_eq]; exact c)]
        rfl
  rw [joiner_run_in]
  have hL := key (at_.drop (i + 1)) 1 rfl (by omega)
  refine (loop_end hL).trans ?_
  rw [joiner_run_a2_x0]
  unfold joiner_run runN
  rw [Int.toNat_natCast]
def F_joiner_run : FnC Un := fun args => match args with
  | [x0, x1, x2] => (dL .row x0).bind fun l => (dL .int x1).bind fun at_ => (dI .i64 x2).bind fun from_ => some ([(0 ≤ from_ ∧ from_ < (at_.length : Int)) ∧ jIn l at_], A_joiner_run (joiner_run l at_ from_), O_joiner_run (joiner_run l at_ from_))
  | _ => none
theorem ok_joiner_run : FnOK 21 F_joiner_run := by
  intro args ob rs os h hob
  unfold F_joiner_run at h
  split at h
  · simp only [Option.bind_eq_some_iff, Option.some.injEq, Prod.mk.injEq] at h
    obtain ⟨l, e0, at_, e1, from_, e2, rfl, rfl, rfl⟩ := h
    obtain rfl := dL_eq e0
    obtain rfl := dL_eq e1
    obtain rfl := dI_eq e2
    exact ⟨fn_contractF (M := M_joiner_run) rfl (tbl_ok (l1 := [(14, F_value_Orders)]) (l2 := []) (l3 := []) (l4 := []) (l5 := []) ⟨ok_value_Orders, trivial⟩ trivial trivial trivial trivial) Tryd.func21 (by kernel_rfl) N_joiner_run 0 [.d] (fun hwf => (joiner_run_spec l at_ from_ (wfArg hwf (a := .d (.v (.dat (U := Un) Ty.row l))) (List.mem_of_getElem? (i := 0) rfl)) (wfArg hwf (a := .d (.v (.dat (U := Un) Ty.int at_))) (List.mem_of_getElem? (i := 1) rfl)) (wfArg hwf (a := .d (.v (.s (.int .i64 from_)))) (List.mem_of_getElem? (i := 2) rfl)) (hob _ (List.mem_of_getElem? (i := 0) rfl)))), hasBody_of Tryd.func21 (by kernel_rfl) (by kernel_rfl)⟩
  · simp at h
def M_r32_meet : Mc Un := mach (tbl [(28, F_r03_Orders)]) (tbl []) (tbl []) (tbl []) (tbl [])
def A_r32_meet (r : Bool) : List (A Un) := [.c (.s (.bool r))]
def O_r32_meet (_r : Bool) : List (Ob Un) := []
def R_r32_meet (r : Bool) : RF Un := (A_r32_meet r, O_r32_meet r)
def N_r32_meet : Nat → NS := fun l => (look l [(2, { ts := bl 22 51, bs := bl 22 0, nm := [], cs := true })]).getD ⟨[], [], [], [], [], true⟩
def r32_meet_s2 (a : List Val) (b : List Val) (v0 : Int) : S Un := (st 22 22 88 0 [(0, al .val a), (1, al .val b), (4, ab false), (5, ai v0)] [] [])
noncomputable def r32_meet_B2 : Code := sub (bodyOf Tryd.f16) [1, 0, 1, 2, 2]
def r32_meet_L2 : S Un → Option (EX Un) := loopF (N_r32_meet 2) (fun s Q => awf M_r32_meet N_r32_meet r32_meet_B2 s Q)
def r32_meet_C2 : Exit → S Un → Option (RF Un) := ctxF M_r32_meet N_r32_meet (bodyOf Tryd.f16) [1, 0, 1, 2] (retF M_r32_meet Tryd.f16.results.toList [.d])
def r32_meet_fn (a : List Val) (b : List Val) : Option (RF Un) := awf M_r32_meet N_r32_meet (bodyOf Tryd.f16) (entry Tryd.f16.ntmps 0 [.d (.v (.dat (U := Un) Ty.val a)), .d (.v (.dat (U := Un) Ty.val b))]) (retF M_r32_meet Tryd.f16.results.toList [.d])
theorem r32_meet_in (a : List Val) (b : List Val) : r32_meet_fn a b =
 (r32_meet_L2 (r32_meet_s2 a b (0 : Int))).bind (thenX r32_meet_C2) := by kernel_rfl
theorem r32_meet_l2 (a : List Val) (b : List Val) (v0 : Int) : r32_meet_L2 (r32_meet_s2 a b v0) =
 cndO (decide (v0 < (↑a.length : Int)))
  (obO (0 ≤ v0 ∧ v0 < (↑a.length : Int))
   (cndO ((a.getD v0.toNat zeroVal).kind == 0)
    (some (.ret, (r32_meet_s2 a b v0)))
    (r32_meet_L2 (r32_meet_s2 a b (IntKind.i64.wrap (v0 + 1))))))
  (some (.exit 0, (r32_meet_s2 a b v0))) := (loopF_eq (N_r32_meet 2) r32_meet_B2 _).trans (by kernel_rfl)
theorem r32_meet_a2_ret (a : List Val) (b : List Val) (v0 : Int) : r32_meet_C2 .ret (r32_meet_s2 a b v0) =
 some (R_r32_meet (false)) := by kernel_rfl
theorem r32_meet_a2_x0 (a : List Val) (b : List Val) (v0 : Int) : r32_meet_C2 (.exit 0) (r32_meet_s2 a b v0) =
 some (R_r32_meet (r03_Orders a b == 0)) := by kernel_rfl
def r32_meet (a b : List Val) : Bool := meetR a b
theorem r32_meet_spec (a b : List Val) (ha : WL .val a) (_hb : WL .val b) : r32_meet_fn a b = some (R_r32_meet (r32_meet a b)) := by
  have hal := ha.len
  have key : ∀ (r : List Val) (i : Nat), a.drop i = r → i ≤ a.length → (r32_meet_L2 (r32_meet_s2 a b (i : Int))).bind (thenX r32_meet_C2) = some (R_r32_meet (wholeR r && decide (a = b))) := by
    intro r
    induction r with
    | nil =>
      intro i e hi
      have n1 : a.length ≤ i := List.drop_eq_nil_iff.1 e
      have hL : r32_meet_L2 (r32_meet_s2 a b (i : Int)) = some (.exit 0, r32_meet_s2 a b (i : Int)) := by
        rw [r32_meet_l2, cndO_eq, if_neg (by rw [decide_eq_true_eq]; omega)]
      rw [loop_end hL, r32_meet_a2_x0, r03_Orders_eq, ordR_eq0]
      rfl
    | cons x r ih =>
      intro i e hi
      obtain ⟨a1, a2, a3, _⟩ := drop_cons e
      have a2' : a.getD i zeroVal = x := a2 _
      by_cases c : (x.kind == 0) = true
      · have hL : r32_meet_L2 (r32_meet_s2 a b (i : Int)) = some (.ret, r32_meet_s2 a b (i : Int)) := by
          rw [r32_meet_l2, cndO_eq, if_pos (by rw [decide_eq_true_eq]; omega), obO_pos (by omega), Int.toNat_natCast, a2', cndO_eq, if_pos c]
        rw [loop_end hL, r32_meet_a2_ret]
        simp [wholeR, c]
      · have hL : r32_meet_L2 (r32_meet_s2 a b (i : Int)) = r32_meet_L2 (r32_meet_s2 a b ((i + 1 : Nat) : Int)) := by
          rw [r32_meet_l2, cndO_eq, if_pos (by rw [decide_eq_true_eq]; omega), obO_pos (by omega), Int.toNat_natCast, a2', cndO_eq, if_neg c, wrap_id (by omega)]
          rfl
        rw [hL, ih (i + 1) a3 (by omega)]
        have c' : (x.kind == 0) = false := by simpa using c
        simp [wholeR, c']
  rw [r32_meet_in]
  exact key a 0 rfl (Nat.zero_le _)
def F_r32_meet : FnC Un := fun args => match args with
  | [x0, x1] => (dL .val x0).bind fun a => (dL .val x1).bind fun b => some ([], A_r32_meet (r32_meet a b), O_r32_meet (r32_meet a b))
  | _ => none
theorem ok_r32_meet : FnOK 16 F_r32_meet := by
  intro args ob rs os h hob
  unfold F_r32_meet at h
  split at h
  · simp only [Option.bind_eq_some_iff, Option.some.injEq, Prod.mk.injEq] at h
    obtain ⟨a, e0, b, e1, rfl, rfl, rfl⟩ := h
    obtain rfl := dL_eq e0
    obtain rfl := dL_eq e1
    exact ⟨fn_contractF (M := M_r32_meet) rfl (tbl_ok (l1 := [(28, F_r03_Orders)]) (l2 := []) (l3 := []) (l4 := []) (l5 := []) ⟨ok_r03_Orders, trivial⟩ trivial trivial trivial trivial) Tryd.func16 (by kernel_rfl) N_r32_meet 0 [.d] (fun hwf => (r32_meet_spec a b (wfArg hwf (a := .d (.v (.dat (U := Un) Ty.val a))) (List.mem_of_getElem? (i := 0) rfl)) (wfArg hwf (a := .d (.v (.dat (U := Un) Ty.val b))) (List.mem_of_getElem? (i := 1) rfl)))), hasBody_of Tryd.func16 (by kernel_rfl) (by kernel_rfl)⟩
  · simp at h
def M_r32_Nest : Mc Un := mach (tbl [(16, F_r32_meet)]) (tbl []) (tbl []) (tbl []) (tbl [])
def A_r32_Nest (r : (List (Int × Int))) : List (A Un) := [.c (.sl (U := Un) Ty.pair r false)]
def O_r32_Nest (_r : (List (Int × Int))) : List (Ob Un) := []
def R_r32_Nest (r : (List (Int × Int))) : RF Un := (A_r32_Nest r, O_r32_Nest r)
def N_r32_Nest : Nat → NS := fun l => (look l [(3, { ts := bl 36 99, bs := bl 36 0, nm := [(.sl 5, 144)], cs := true }), (6, { ts := bl 36 227, bs := bl 36 0, nm := [(.sl 5, 145)], cs := true })]).getD ⟨[], [], [], [], [], true⟩
def r32_Nest_s3 (l : List (List Val)) (r : List (List Val)) (v0 : Int) (v1 : List (Int × Int)) : S Un := (st 36 36 146 0 [(0, al .row l), (1, al .row r), (5, ao 144), (6, ai v0)] [] [(144, some ⟨(0 : Nat), Ty.pair, v1, some (0 : Nat), true⟩)])
def r32_Nest_s6 (l : List (List Val)) (r : List (List Val)) (v0 : Int) (v1 : List (Int × Int)) (v2 : Int) : S Un := (st 36 36 146 0 [(0, al .row l), (1, al .row r), (5, ao 145), (6, ai v0), (7, ai v2)] [] [(145, some ⟨(0 : Nat), Ty.pair, v1, some (0 : Nat), true⟩)])
noncomputable def r32_Nest_B3 : Code := sub (bodyOf Tryd.f7) [1, 1, 0, 1, 2, 2]
def r32_Nest_L3 : S Un → Option (EX Un) := loopF (N_r32_Nest 3) (fun s Q => awf M_r32_Nest N_r32_Nest r32_Nest_B3 s Q)
noncomputable def r32_Nest_B6 : Code := sub (sub (bodyOf Tryd.f7) [1, 1, 0, 1, 2, 2]) [1, 0, 2, 1, 2, 2]
def r32_Nest_L6 : S Un → Option (EX Un) := loopF (N_r32_Nest 6) (fun s Q => awf M_r32_Nest N_r32_Nest r32_Nest_B6 s Q)
def r32_Nest_C3 : Exit → S Un → Option (RF Un) := ctxF M_r32_Nest N_r32_Nest (bodyOf Tryd.f7) [1, 1, 0, 1, 2] (retF M_r32_Nest Tryd.f7.results.toList [.d])
def r32_Nest_C6 : Exit → S Un → Option (EX Un) := ctxF M_r32_Nest N_r32_Nest r32_Nest_B3 [1, 0, 2, 1, 2] (roundF (N_r32_Nest 3) r32_Nest_L3)
def r32_Nest_fn (l : List (List Val)) (r : List (List Val)) : Option (RF Un) := awf M_r32_Nest N_r32_Nest (bodyOf Tryd.f7) (entry Tryd.f7.ntmps 2 [.d (.v (.dat (U := Un) Ty.row l)), .d (.v (.dat (U := Un) Ty.row r))]) (retF M_r32_Nest Tryd.f7.results.toList [.d])
theorem r32_Nest_in (l : List (List Val)) (r : List (List Val)) : r32_Nest_fn l r =
 (r32_Nest_L3 (r32_Nest_s3 l r (0 : Int) ([]))).bind (thenX r32_Nest_C3) := by kernel_rfl
theorem r32_Nest_l3 (l : List (List Val)) (r : List (List Val)) (v0 : Int) (v1 : List (Int × Int)) : r32_Nest_L3 (r32_Nest_s3 l r v0 v1) =
 cndO (decide (v0 < (↑l.length : Int)))
  ((r32_Nest_L6 (r32_Nest_s6 l r v0 v1 (0 : Int))).bind (thenX r32_Nest_C6))
  (some (.exit 0, (r32_Nest_s3 l r v0 v1))) := (loopF_eq (N_r32_Nest 3) r32_Nest_B3 _).trans (by kernel_rfl)
theorem r32_Nest_a3_x0 (l : List (List Val)) (r : List (List Val)) (v0 : Int) (v1 : List (Int × Int)) : r32_Nest_C3 (.exit 0) (r32_Nest_s3 l r v0 v1) =
 some (R_r32_Nest (v1)) := by kernel_rfl
theorem r32_Nest_l6 (l : List (List Val)) (r : List (List Val)) (v0 : Int) (v1 : List (Int × Int)) (v2 : Int) : r32_Nest_L6 (r32_Nest_s6 l r v0 v1 v2) =
 cndO (decide (v2 < (↑r.length : Int)))
  (obO (0 ≤ v0 ∧ v0 < (↑l.length : Int))
   (obO (0 ≤ v2 ∧ v2 < (↑r.length : Int))
    (cndO (r32_meet (l.getD v0.toNat []) (r.getD v2.toNat []))
     (obO ((v1.length + [(v0, v2)].length) * (16 : Nat) ≤ roomB)
      (r32_Nest_L6 (r32_Nest_s6 l r v0 (v1 ++ [(v0, v2)]) (IntKind.i64.wrap (v2 + 1)))))
     (r32_Nest_L6 (r32_Nest_s6 l r v0 v1 (IntKind.i64.wrap (v2 + 1)))))))
  (some (.exit 2, (r32_Nest_s6 l r v0 v1 v2))) := (loopF_eq (N_r32_Nest 6) r32_Nest_B6 _).trans (by kernel_rfl)
theorem r32_Nest_a6_x2 (l : List (List Val)) (r : List (List Val)) (v0 : Int) (v1 : List (Int × Int)) (v2 : Int) : r32_Nest_C6 (.exit 2) (r32_Nest_s6 l r v0 v1 v2) =
 r32_Nest_L3 (r32_Nest_s3 l r (IntKind.i64.wrap (v0 + 1)) v1) := by kernel_rfl
def r32_Nest (l r : List (List Val)) : List (Int × Int) := jPairs l r
theorem r32_Nest_spec (l r : List (List Val)) (_hl : WL .row l) (_hr : WL .row r) (h : jBound l r) : r32_Nest_fn l r = some (R_r32_Nest (r32_Nest l r)) := by
  rw [r32_Nest_in]
  have := nest_loop (l := l) (r := r) (L3 := r32_Nest_L3) (L6 := r32_Nest_L6) (s3 := r32_Nest_s3 l r) (s6 := r32_Nest_s6 l r) (C6 := r32_Nest_C6) (m := r32_meet) (fun _ _ => rfl) h (r32_Nest_l6 l r) (r32_Nest_l3 l r) (r32_Nest_a6_x2 l r)
  rw [loop_end this, r32_Nest_a3_x0]
  rfl
def F_r32_Nest : FnC Un := fun args => match args with
  | [x0, x1] => (dL .row x0).bind fun l => (dL .row x1).bind fun r => some ([jBound l r], A_r32_Nest (r32_Nest l r), O_r32_Nest (r32_Nest l r))
  | _ => none
theorem ok_r32_Nest : FnOK 7 F_r32_Nest := by
  intro args ob rs os h hob
  unfold F_r32_Nest at h
  split at h
  · simp only [Option.bind_eq_some_iff, Option.some.injEq, Prod.mk.injEq] at h
    obtain ⟨l, e0, r, e1, rfl, rfl, rfl⟩ := h
    obtain rfl := dL_eq e0
    obtain rfl := dL_eq e1
    exact ⟨fn_contractF (M := M_r32_Nest) rfl (tbl_ok (l1 := [(16, F_r32_meet)]) (l2 := []) (l3 := []) (l4 := []) (l5 := []) ⟨ok_r32_meet, trivial⟩ trivial trivial trivial trivial) Tryd.func7 (by kernel_rfl) N_r32_Nest 2 [.d] (fun hwf => (r32_Nest_spec l r (wfArg hwf (a := .d (.v (.dat (U := Un) Ty.row l))) (List.mem_of_getElem? (i := 0) rfl)) (wfArg hwf (a := .d (.v (.dat (U := Un) Ty.row r))) (List.mem_of_getElem? (i := 1) rfl)) (hob _ (List.mem_of_getElem? (i := 0) rfl)))), hasBody_of Tryd.func7 (by kernel_rfl) (by kernel_rfl)⟩
  · simp at h
def aloneL (n : Nat) (l : List (Int × Int)) : List Int := ((List.range n).filter fun i : Nat => !l.any fun p => p.1 == (i : Int)).map fun i : Nat => (i : Int)
theorem aloneL_len (n : Nat) (l : List (Int × Int)) : (aloneL n l).length ≤ n := by
  unfold aloneL
  rw [List.length_map]
  exact Nat.le_trans (List.length_filter_le _ _) (by rw [List.length_range]; exact Nat.le_refl _)
theorem aloneL_succ (n : Nat) (l : List (Int × Int)) : aloneL (n + 1) l = if (l.any fun p => p.1 == (n : Int)) then aloneL n l else aloneL n l ++ [(n : Int)] := by
  unfold aloneL
  rw [List.range_succ, List.filter_append, List.map_append]
  cases h : l.any fun p => p.1 == (n : Int) <;> simp [h]
def M_r32_Same : Mc Un := mach (tbl []) (tbl []) (tbl []) (tbl []) (tbl [])
def A_r32_Same (r : Bool) : List (A Un) := [.c (.s (.bool r))]
def O_r32_Same (_r : Bool) : List (Ob Un) := []
def R_r32_Same (r : Bool) : RF Un := (A_r32_Same r, O_r32_Same r)
def N_r32_Same : Nat → NS := fun l => (look l [(4, { ts := bl 26 51, bs := bl 26 0, nm := [], cs := true })]).getD ⟨[], [], [], [], [], true⟩
def r32_Same_s4 (a : List (Int × Int)) (b : List (Int × Int)) (v0 : Int) : S Un := (st 26 26 104 0 [(0, al .pair a), (1, al .pair b), (4, ab false), (5, ai v0)] [] [])
noncomputable def r32_Same_B4 : Code := sub (bodyOf Tryd.f8) [1, 1, 0, 1, 2, 2]
def r32_Same_L4 : S Un → Option (EX Un) := loopF (N_r32_Same 4) (fun s Q => awf M_r32_Same N_r32_Same r32_Same_B4 s Q)
def r32_Same_C4 : Exit → S Un → Option (RF Un) := ctxF M_r32_Same N_r32_Same (bodyOf Tryd.f8) [1, 1, 0, 1, 2] (retF M_r32_Same Tryd.f8.results.toList [.d])
def r32_Same_fn (a : List (Int × Int)) (b : List (Int × Int)) : Option (RF Un) := awf M_r32_Same N_r32_Same (bodyOf Tryd.f8) (entry Tryd.f8.ntmps 0 [.d (.v (.dat (U := Un) Ty.pair a)), .d (.v (.dat (U := Un) Ty.pair b))]) (retF M_r32_Same Tryd.f8.results.toList [.d])
theorem r32_Same_in (a : List (Int × Int)) (b : List (Int × Int)) : r32_Same_fn a b =
 cndO ((↑a.length : Int) != (↑b.length : Int))
  (some (R_r32_Same (false)))
  ((r32_Same_L4 (r32_Same_s4 a b (0 : Int))).bind (thenX r32_Same_C4)) := by kernel_rfl
theorem r32_Same_l4 (a : List (Int × Int)) (b : List (Int × Int)) (v0 : Int) : r32_Same_L4 (r32_Same_s4 a b v0) =
 cndO (decide (v0 < (↑a.length : Int)))
  (obO (0 ≤ v0 ∧ v0 < (↑a.length : Int))
   (obO (0 ≤ v0 ∧ v0 < (↑b.length : Int))
    (cndO (!andB [EK.int IntKind.i64] ((a.getD v0.toNat ((0 : Int), (0 : Int))).fst == (b.getD v0.toNat ((0 : Int), (0 : Int))).fst) (andB [] ((a.getD v0.toNat ((0 : Int), (0 : Int))).snd == (b.getD v0.toNat ((0 : Int), (0 : Int))).snd) true))
     (some (.ret, (r32_Same_s4 a b v0)))
     (r32_Same_L4 (r32_Same_s4 a b (IntKind.i64.wrap (v0 + 1)))))))
  (some (.exit 0, (r32_Same_s4 a b v0))) := (loopF_eq (N_r32_Same 4) r32_Same_B4 _).trans (by kernel_rfl)
theorem r32_Same_a4_ret (a : List (Int × Int)) (b : List (Int × Int)) (v0 : Int) : r32_Same_C4 .ret (r32_Same_s4 a b v0) =
 some (R_r32_Same (false)) := by kernel_rfl
theorem r32_Same_a4_x0 (a : List (Int × Int)) (b : List (Int × Int)) (v0 : Int) : r32_Same_C4 (.exit 0) (r32_Same_s4 a b v0) =
 some (R_r32_Same (true)) := by kernel_rfl
noncomputable def r32_Same (a b : List (Int × Int)) : Bool := deq a b
theorem eqPair (x y : Int × Int) : andB [EK.int IntKind.i64] (x.fst == y.fst) (andB [] (x.snd == y.snd) true) = deq x y := by
  refine deq_of ?_
  cases x; cases y
  simp [andB]
theorem r32_Same_spec (a b : List (Int × Int)) (ha : WL .pair a) (_hb : WL .pair b) : r32_Same_fn a b = some (R_r32_Same (r32_Same a b)) := by
  rw [r32_Same_in]
  by_cases hl : a.length = b.length
  · rw [cndO_eq, if_neg (by simp [hl])]
    exact loop_pre (L := r32_Same_L4) (st := fun i => r32_Same_s4 a b i) (fun r => some (R_r32_Same r)) (d := ((0 : Int), (0 : Int))) ha.len
      (fun i hi hj => by
        rw [r32_Same_l4, eqPair]
        simp only [cndO_eq, Int.toNat_natCast]
        rw [if_pos (by simp; omega), obO_pos (by omega), obO_pos (by omega)]
        cases deq (a.getD i ((0 : Int), (0 : Int))) (b.getD i ((0 : Int), (0 : Int))) <;> simp)
      (fun i h => by
        rw [r32_Same_l4]
        simp only [cndO_eq, decide_eq_true_eq]
        rw [if_neg (by omega)])
      (fun i => r32_Same_a4_ret _ _ _) (fun i => by rw [r32_Same_a4_x0, hl]; simp)
  · rw [cndO_eq, if_pos (by simp; omega)]
    unfold r32_Same
    have : deq a b = false := by
      cases h : deq a b with
      | false => rfl
      | true => exact absurd (congrArg List.length (deq_iff.1 h)) hl
    rw [this]
def F_r32_Same : FnC Un := fun args => match args with
  | [x0, x1] => (dL .pair x0).bind fun a => (dL .pair x1).bind fun b => some ([], A_r32_Same (r32_Same a b), O_r32_Same (r32_Same a b))
  | _ => none
theorem ok_r32_Same : FnOK 8 F_r32_Same := by
  intro args ob rs os h hob
  unfold F_r32_Same at h
  split at h
  · simp only [Option.bind_eq_some_iff, Option.some.injEq, Prod.mk.injEq] at h
    obtain ⟨a, e0, b, e1, rfl, rfl, rfl⟩ := h
    obtain rfl := dL_eq e0
    obtain rfl := dL_eq e1
    exact ⟨fn_contractF (M := M_r32_Same) rfl (tbl_ok (l1 := []) (l2 := []) (l3 := []) (l4 := []) (l5 := []) trivial trivial trivial trivial trivial) Tryd.func8 (by kernel_rfl) N_r32_Same 0 [.d] (fun hwf => (r32_Same_spec a b (wfArg hwf (a := .d (.v (.dat (U := Un) Ty.pair a))) (List.mem_of_getElem? (i := 0) rfl)) (wfArg hwf (a := .d (.v (.dat (U := Un) Ty.pair b))) (List.mem_of_getElem? (i := 1) rfl)))), hasBody_of Tryd.func8 (by kernel_rfl) (by kernel_rfl)⟩
  · simp at h
end
end Go.Proofs.YtcmfdbjdbbpomaaDoor.B
namespace Go.Proofs.YtcmfdbjdbbpomaaDoor.B
open Go Go.RowKit Go.Shelf
set_option maxRecDepth 1000000
set_option linter.unusedVariables false
noncomputable section
def Gr (w w' : World) : Prop := ∃ q os, w' = Sort.grow (w.drewN q) os
theorem Gr.refl (w : World) : Gr w w := ⟨0, #[], (Sort.grow_empty w).symm⟩
theorem Gr.trans {a b c : World} (h : Gr a b) (k : Gr b c) : Gr a c := by
  obtain ⟨q, os, rfl⟩ := h
  obtain ⟨q', os', rfl⟩ := k
  refine ⟨q + q', os ++ os', ?_⟩
  rw [← Sort.grow_grow, ← World.drewN_drewN]
  rfl
theorem Gr.alloc {a b : World} (h : Gr a b) (o : Obj) : Gr a (b.alloc o) := h.trans ⟨0, #[o], by
  show World.mk _ _ _ _ _ = World.mk _ _ _ _ _
  congr 1⟩
theorem Gr.drew {a b : World} (h : Gr a b) : Gr a b.drew := h.trans ⟨1, #[], by rw [Sort.grow_empty]; rfl⟩
theorem Gr.ext {a b : World} (h : Gr a b) : Ext a b := by
  obtain ⟨q, os, rfl⟩ := h
  refine ⟨rfl, rfl, rfl, by simp [Sort.grow, World.drewN], fun k hk => ?_⟩
  show (a.heap ++ os)[k]? = _
  rw [Array.getElem?_append_left hk]
def orI : List Int → Int
  | [] => 0
  | z :: r => if z = 0 then orI r else z
theorem or_walk (b off cap : Nat) (zs : List Int) (w : World) (hl : zs.length ≤ 1000000000) (hcap : zs.length ≤ cap) (hc : ∀ i, i < zs.length → w.cell? ⟨b, off + i, none⟩ = some (.int .i64 (zs.getD i 0))) :
    Calls Tryd.prog 24 #[.slice (some ⟨b, off, none⟩) zs.length cap] w fun e w' => e = .returned (.int .i64 (orI zs)) ∧ w' = w := by
  have HCc := Lib.hid hc
  clear hc
  go_enter Tryd.func24, Tryd.ntmps24
  go_wp2
  go_loop [8] (fun s8 => ∃ (i : Nat), i ≤ zs.length ∧ s8 = .int .i64 i ∧ orI (zs.drop i) = orI zs) (fun s8 => zs.length - (intOf s8).toNat)
  case atStart => exact ⟨0, Nat.zero_le _, rfl, rfl⟩
  case round =>
    obtain ⟨i, hi, rfl, ho⟩ := hrel
    by_cases hlt : i < zs.length
    · have h1 := HCc.out i hlt
      have k0 : (i : Int) < (zs.length : Int) := by omega
      have hd : zs.drop i = zs.getD i 0 :: zs.drop (i + 1) := by
        rw [List.drop_eq_getElem_cons hlt, List.getD_eq_getElem?_getD, List.getElem?_eq_getElem hlt]; rfl
      have HO := Lib.hid ho
      have HD := Lib.hid hd
      clear ho hd
      obtain ⟨z, hz⟩ : ∃ z, z = zs.getD i 0 := ⟨_, rfl⟩
      rw [← hz] at h1
      have HZ := Lib.hid hz
      clear hz
      by_cases hz0 : z = 0
      · have hz1 : (z != 0) = false := by simpa using hz0
        go_wp2_with fail
        go_round
        case rel => exact ⟨i + 1, by omega, by go_num, by rw [← HO.out, HD.out, ← HZ.out, orI, if_pos hz0]⟩
        case measure => simp [intOf]; omega
      · have hz1 : (z != 0) = true := by simpa using hz0
        go_wp2_with fail
        go_ret
        exact ⟨by rw [← HO.out, HD.out, ← HZ.out, orI, if_neg hz0]; rfl, rfl⟩
    · go_wp2_with fail
      go_ret
      refine ⟨?_, rfl⟩
      rw [List.drop_of_length_le (by omega)] at ho
      rw [← ho]; rfl
theorem cell_last {W : World} {H : Nat} (hH : W.heap.size = H) (cs : Array Value) (t : TypeId) (i : Nat) (v : Value) (hv : cs[i]? = some v) : (W.alloc (.cells cs t)).cell? ⟨H, i, none⟩ = some v := by
  subst hH
  have : (W.alloc (.cells cs t)).heap[W.heap.size]? = some (.cells cs t (0, 0)) := by
    have : ∀ (h : Array Obj) (o : Obj), (h.push o)[h.size]? = some o := fun h o => by simp
    exact this _ _
  unfold World.cell?
  rw [this]
  simp [hv]
def valV (a : Val) : Value := .agg #[.int .i64 a.kind, .int .i64 a.n, .string a.s]
theorem ord_or (a b : Val) : orI [Lib.compareInt a.kind b.kind, Lib.compareInt a.n b.n, Lib.compareBytes a.s.data.toList b.s.data.toList] = ordV a b := by
  have hc : ∀ x y : Int, Lib.compareInt x y = cmpI x y := fun x y => by
    unfold Lib.compareInt cmpI; rfl
  rw [hc, hc, compareBytes_eq]
  unfold ordV orI orI orI orI cmpS
  rw [← ByteArray.toList_eq, ← ByteArray.toList_eq]
  by_cases h1 : a.kind = b.kind
  · rw [if_pos (cmpI_zero.2 h1), if_pos h1]
    by_cases h2 : a.n = b.n
    · rw [if_pos (cmpI_zero.2 h2), if_pos h2]
      split
      · rename_i h; rw [h]
      · rfl
    · rw [if_neg (fun e => h2 (cmpI_zero.1 e)), if_neg h2]
  · rw [if_neg (fun e => h1 (cmpI_zero.1 e)), if_neg h1]
set_option maxHeartbeats 4000000 in
theorem order_walk (a b : Val) (w : World) : Calls Tryd.prog 27 #[valV a, valV b] w fun e w' => e = .returned (.int .i64 (ordV a b)) ∧ Gr w w' := by
  have mixed : Tryd.prog.follows .mixedOrders = true := by kernel_rfl
  have ho := ord_or a b
  unfold valV
  generalize a.kind = k1 at ho ⊢
  generalize b.kind = k2 at ho ⊢
  generalize a.n = n1 at ho ⊢
  generalize b.n = n2 at ho ⊢
  generalize a.s = s1 at ho ⊢
  generalize b.s = s2 at ho ⊢
  have HO := Lib.hid ho
  clear ho
  generalize ordV a b = r at HO ⊢
  go_enter Tryd.func27, Tryd.ntmps27
  go_wp2
  have g0 : Gr w ((w.alloc (Obj.cells #[Value.int .i64 k1, Value.int .i64 n1, Value.string s1] 39)).alloc (Obj.cells #[Value.int .i64 k2, Value.int .i64 n2, Value.string s2] 39)).drew := (((Gr.refl w).alloc _).alloc _).drew
  have G0 := Lib.hid g0
  clear g0
  go_region_held3 (fun w' => w'.cell? ⟨w.heap.size, 0, none⟩ = some (.int .i64 k1) ∧ w'.cell? ⟨w.heap.size, 1, none⟩ = some (.int .i64 n1) ∧ w'.cell? ⟨w.heap.size, 2, none⟩ = some (.string s1) ∧ w'.cell? ⟨w.heap.size + 1, 0, none⟩ = some (.int .i64 k2) ∧ w'.cell? ⟨w.heap.size + 1, 1, none⟩ = some (.int .i64 n2) ∧ w'.cell? ⟨w.heap.size + 1, 2, none⟩ = some (.string s2)) (go_keep)
    (first
      | (go_at_call 25; refine (Tryd.cmp_Compare_int _ _ _).mono ?_; rintro e w' ⟨rfl, rfl⟩)
      | (go_at_call 40; refine (Tryd.strings_Compare _ _ _).mono ?_; rintro e w' ⟨rfl, rfl⟩)
      | (go_at_call 24; refine (or_walk _ 0 3 [Lib.compareInt k1 k2, Lib.compareInt n1 n2, Lib.compareBytes s1.data.toList s2.data.toList] _ (by simp) (by simp) (fun i hi => by match i, hi with | 0, _ => (simp; exact cell_last (by simp) _ _ _ _ rfl) | 1, _ => (simp; exact cell_last (by simp) _ _ _ _ rfl) | 2, _ => (simp; exact cell_last (by simp) _ _ _ _ rfl))).mono ?_; rintro e w' ⟨rfl, rfl⟩))
  go_wp2
  go_ret
  exact ⟨by rw [← HO.out]; rfl, by first | exact ((((Gr.refl w).alloc _).alloc _).alloc _).drew | simpa using ((((Gr.refl w).alloc _).alloc _).alloc _).drew⟩
set_option maxHeartbeats 8000000 in
theorem compareFunc_walk (r s : List Val) (a1 a2 : Option Addr) (b1 o1 c1 b2 o2 c2 : Nat) (w : World) (hr : r.length ≤ 9223372036854775807) (hs : s.length ≤ 9223372036854775807)
    (h1 : (r ≠ [] → a1 = some ⟨b1, o1, none⟩ ∧ r.length ≤ c1)) (h2 : (s ≠ [] → a2 = some ⟨b2, o2, none⟩ ∧ s.length ≤ c2))
    (hc1 : ∀ i x, r[i]? = some x → w.cell? ⟨b1, o1 + i * 3, none⟩ = some (.int .i64 x.kind) ∧ w.cell? ⟨b1, o1 + i * 3 + 1, none⟩ = some (.int .i64 x.n) ∧ w.cell? ⟨b1, o1 + i * 3 + 2, none⟩ = some (.string x.s))
    (hc2 : ∀ i x, s[i]? = some x → w.cell? ⟨b2, o2 + i * 3, none⟩ = some (.int .i64 x.kind) ∧ w.cell? ⟨b2, o2 + i * 3 + 1, none⟩ = some (.int .i64 x.n) ∧ w.cell? ⟨b2, o2 + i * 3 + 2, none⟩ = some (.string x.s)) :
    Calls Tryd.prog 26 #[.slice a1 r.length c1, .slice a2 s.length c2, .func (.func 27) #[] #[]] w fun e w' => e = .returned (.int .i64 (ordR r s)) ∧ Gr w w' := by
  have H1 := Lib.hid hc1
  have H2 := Lib.hid hc2
  have HA1 := Lib.hid h1
  have HA2 := Lib.hid h2
  clear hc1 hc2 h1 h2
  go_enter Tryd.func26, Tryd.ntmps26
  go_wp2
  go_loopw [13] (fun s13 wr => ∃ (i : Nat), i ≤ r.length ∧ i ≤ s.length ∧ s13 = .int .i64 i ∧ ordR (r.drop i) (s.drop i) = ordR r s ∧ Gr w wr) (fun s13 _ => r.length - (intOf s13).toNat)
  case atStart => exact ⟨0, Nat.zero_le _, Nat.zero_le _, rfl, rfl, Gr.refl w⟩
  case round =>
    obtain ⟨i, hi, hi2, rfl, ho, hg⟩ := hrel
    have HO := Lib.hid ho
    have HG := Lib.hid hg
    clear ho hg
    by_cases hlt : i < r.length
    · obtain ⟨x, hx⟩ : ∃ x, r[i]? = some x := ⟨_, List.getElem?_eq_getElem hlt⟩
      obtain ⟨rfl, hcap⟩ := HA1.out (fun e => by rw [e] at hlt; simp at hlt)
      obtain ⟨c0, c1', c2'⟩ := H1.out i x hx
      have d0 := HG.out.ext.keeps c0
      have d1 := HG.out.ext.keeps c1'
      have d2 := HG.out.ext.keeps c2'
      clear c0 c1' c2'
      have k0 : (i : Int) < (r.length : Int) := by omega
      by_cases hlt2 : i < s.length
      · obtain ⟨y, hy⟩ : ∃ y, s[i]? = some y := ⟨_, List.getElem?_eq_getElem hlt2⟩
        obtain ⟨rfl, hcap2⟩ := HA2.out (fun e => by rw [e] at hlt2; simp at hlt2)
        obtain ⟨c0, c1', c2'⟩ := H2.out i y hy
        have e0 := HG.out.ext.keeps c0
        have e1 := HG.out.ext.keeps c1'
        have e2 := HG.out.ext.keeps c2'
        clear c0 c1' c2'
        have lb2 := lt_of_cell e0
        have nb2 : ¬ (b2 = wr.heap.size) := by have : b2 < wr.heap.size := lb2; omega
        have nb3 : ¬ (wr.heap.size = b2) := by omega
        have k1 : (i : Int) < (s.length : Int) := by omega
        have k2 : ¬ ((s.length : Int) ≤ (i : Int)) := by omega
        have hxy := order_walk x y
        obtain ⟨z, hz⟩ : ∃ z, z = ordV x y := ⟨_, rfl⟩
        rw [← hz] at hxy
        unfold valV at hxy
        have hdr : r.drop i = x :: r.drop (i + 1) := by rw [List.drop_eq_getElem_cons hlt]; rw [List.getElem?_eq_getElem hlt] at hx; rw [Option.some.inj hx]
        have hds : s.drop i = y :: s.drop (i + 1) := by rw [List.drop_eq_getElem_cons hlt2]; rw [List.getElem?_eq_getElem hlt2] at hy; rw [Option.some.inj hy]
        have HXY := Lib.hid hxy
        have HZ := Lib.hid hz
        have HDR := Lib.hid (And.intro hdr hds)
        clear hxy hz hx hy hdr hds
        by_cases hz0 : z = 0
        · have hz1 : (z != 0) = false := by simpa using hz0
          go_wp2_with (first | (go_at_call 27; refine (HXY.out _).mono ?_; rintro e W1 ⟨rfl, hg1⟩; have HG1 := Lib.hid hg1; clear hg1))
          refine ⟨⟨i + 1, by omega, by omega, by go_num, ?_, ((HG.out.alloc _).alloc _).trans HG1.out⟩, by simp [intOf]; omega⟩
          have h := HO.out
          rw [HDR.out.1, HDR.out.2, ordR, if_pos (by rw [← HZ.out]; exact hz0)] at h
          exact h
        · have hz1 : (z != 0) = true := by simpa using hz0
          go_wp2_with (first | (go_at_call 27; refine (HXY.out _).mono ?_; rintro e W1 ⟨rfl, hg1⟩; have HG1 := Lib.hid hg1; clear hg1))
          go_ret
          have h := HO.out
          rw [HDR.out.1, HDR.out.2, ordR, if_neg (by rw [← HZ.out]; exact hz0), ← HZ.out] at h
          exact ⟨by rw [← h]; rfl, ((HG.out.alloc _).alloc _).trans HG1.out⟩
      · have k2 : (s.length : Int) ≤ (i : Int) := by omega
        go_wp2_with fail
        go_ret
        have h := HO.out
        rw [List.drop_of_length_le (show s.length ≤ i by omega), List.drop_eq_getElem_cons hlt, ordR] at h
        exact ⟨by rw [← h]; rfl, HG.out.alloc _⟩
    · have k0 : ¬ ((i : Int) < (r.length : Int)) := by omega
      by_cases hls : r.length < s.length
      · have k1 : (r.length : Int) < (s.length : Int) := by omega
        go_wp2_with fail
        go_ret
        have h := HO.out
        rw [List.drop_of_length_le (show r.length ≤ i by omega), List.drop_eq_getElem_cons (show i < s.length by omega), ordR] at h
        exact ⟨by rw [← h]; rfl, HG.out⟩
      · have k1 : ¬ (r.length : Int) < (s.length : Int) := by omega
        go_wp2_with fail
        go_ret
        have h := HO.out
        rw [List.drop_of_length_le (show r.length ≤ i by omega), List.drop_of_length_le (show s.length ≤ i by omega), ordR] at h
        exact ⟨by rw [← h]; rfl, HG.out⟩
theorem orders_calls {St : Nat → Nat → Prop} {w : World} {u v : Value} {r s : List Val} (hr : VRel En St w u (.dat (U := Un) Ty.val r)) (hs : VRel En St w v (.dat (U := Un) Ty.val s)) : Calls Tryd.prog 14 #[u, v] w fun e w' => e = .returned (.int .i64 (ordR r s)) ∧ Gr w w' := by
  have l1 : r.length ≤ 9223372036854775807 := by rcases hr.inv with ⟨rfl, _⟩ | ⟨_, _, _, _, _, h, _⟩; simp; exact h.2
  have l2 : s.length ≤ 9223372036854775807 := by rcases hs.inv with ⟨rfl, _⟩ | ⟨_, _, _, _, _, h, _⟩; simp; exact h.2
  obtain ⟨a1, b1, o1, c1, rfl, h1, k1⟩ := vals_cells hr
  obtain ⟨a2, b2, o2, c2, rfl, h2, k2⟩ := vals_cells hs
  have hc := compareFunc_walk r s a1 a2 b1 o1 c1 b2 o2 c2 w l1 l2 h1 h2 (fun i x hx => (k1 i x hx).1) (fun i x hx => (k2 i x hx).1)
  clear h1 k1 h2 k2 hr hs
  go_enter Tryd.func14, Tryd.ntmps14
  go_wp2_with (first | (go_at_call 26; refine hc.mono ?_; rintro e W1 ⟨rfl, hg1⟩; have HG1 := Lib.hid hg1; clear hg1))
  go_ret
  exact ⟨rfl, HG1.out⟩
end
end Go.Proofs.YtcmfdbjdbbpomaaDoor.B
