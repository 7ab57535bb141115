/- Part 15 of the proof: Svord Lgroups Lord Lsortf. -/
import Derived.Deep.RegionHeld3
import Derived.Sort.Grow
import Derived.Shelf.SlSortCmp.Whole1
import Derived.Shelf.SlSortCmp.NoneTotal
import Derived.Test.YtfdnnfbbjiglcaaDoorGrp14
namespace Go.Proofs.YtfdnnfbbjiglcaaDoor.B
open Go Go.RowKit
set_option maxRecDepth 100000
noncomputable section
attribute [local irreducible] awp ctxK itersK iterK retQ retGQ awf ctxF loopF
def M_cmpR : Mc Un := mach (tbl []) (tbl []) (tbl []) (tbl []) (tbl [])
def A_cmpR (r : Int) : List (A Un) := [.c (.s (.int .i64 r))]
def O_cmpR (_r : Int) : List (Ob Un) := []
def R_cmpR (r : Int) : RF Un := (A_cmpR r, O_cmpR r)
def N_cmpR : Nat → NS := fun l => (look l [(2, { ts := bl 39 14407, bs := bl 39 0, nm := [] })]).getD ⟨[], [], [], [], [], false⟩
def cmpR_s2 (s1 : List Val) (s2 : List Val) (p : Val → Val → Int) (v0 : Int) : S Un := (st 39 39 156 0 [(0, al .val s1), (1, al .val s2), (2, AV.one (A.c (C.fv (fv_S_val_S_val_to_i_i64 p)))), (6, ai (0 : Int)), (11, al .val s1), (12, ai (↑s1.length : Int)), (13, ai v0)] [] [])
def cmpR_e2_ret (s1 : List Val) (s2 : List Val) (p : Val → Val → Int) (v0 : Int) (v1 : Int) : S Un := (st 39 39 156 0 [(0, al .val s1), (1, al .val s2), (2, AV.one (A.c (C.fv (fv_S_val_S_val_to_i_i64 p)))), (6, ai v1), (11, al .val s1), (12, ai (↑s1.length : Int)), (13, ai v0)] [] [])
noncomputable def cmpR_B2 : Code := sub (bodyOf Tryd.f23) [1, 0, 1, 2, 2]
def cmpR_L2 : S Un → Option (EX Un) := loopF (N_cmpR 2) (fun s Q => awf M_cmpR N_cmpR cmpR_B2 s Q)
def cmpR_C2 : Exit → S Un → Option (RF Un) := ctxF M_cmpR N_cmpR (bodyOf Tryd.f23) [1, 0, 1, 2] (retF M_cmpR Tryd.f23.results.toList [.d])
def cmpR_fn (s1 : List Val) (s2 : List Val) (p : Val → Val → Int) : Option (RF Un) := awf M_cmpR N_cmpR (bodyOf Tryd.f23) (entry Tryd.f23.ntmps 0 [.d (.v (.dat (U := Un) Ty.val s1)), .d (.v (.dat (U := Un) Ty.val s2)), .fn (fv_S_val_S_val_to_i_i64 p)]) (retF M_cmpR Tryd.f23.results.toList [.d])
theorem cmpR_in (s1 : List Val) (s2 : List Val) (p : Val → Val → Int) : cmpR_fn s1 s2 p =
 (cmpR_L2 (cmpR_s2 s1 s2 p (0 : Int))).bind (thenX cmpR_C2) := by kernel_rfl
theorem cmpR_l2 (s1 : List Val) (s2 : List Val) (p : Val → Val → Int) (v0 : Int) : cmpR_L2 (cmpR_s2 s1 s2 p v0) =
 cndO (decide (v0 < (↑s1.length : Int)))
  (obO (0 ≤ v0 ∧ v0 < (↑s1.length : Int))
   (cndO (decide (v0 ≥ (↑s2.length : Int)))
    (some (.ret, (cmpR_e2_ret s1 s2 p v0 (1 : Int))))
    (obO (0 ≤ v0 ∧ v0 < (↑s2.length : Int))
     (cndO (p (s1.getD v0.toNat zeroVal) (s2.getD v0.toNat zeroVal) != 0)
      (some (.ret, (cmpR_e2_ret s1 s2 p v0 (p (s1.getD v0.toNat zeroVal) (s2.getD v0.toNat zeroVal)))))
      (cmpR_L2 (cmpR_s2 s1 s2 p (IntKind.i64.wrap (v0 + 1))))))))
  (some (.exit 0, (cmpR_s2 s1 s2 p v0))) := (loopF_eq (N_cmpR 2) cmpR_B2 _).trans (by kernel_rfl)
theorem cmpR_a2_ret (s1 : List Val) (s2 : List Val) (p : Val → Val → Int) (v0 : Int) (v1 : Int) : cmpR_C2 .ret (cmpR_e2_ret s1 s2 p v0 v1) =
 some (R_cmpR (v1)) := by kernel_rfl
theorem cmpR_a2_x0 (s1 : List Val) (s2 : List Val) (p : Val → Val → Int) (v0 : Int) : cmpR_C2 (.exit 0) (cmpR_s2 s1 s2 p v0) =
 cndO (decide ((↑s1.length : Int) < (↑s2.length : Int)))
  (some (R_cmpR ((-1 : Int))))
  (some (R_cmpR ((0 : Int)))) := by kernel_rfl
def cmpRA (p : Val → Val → Int) : List Val → List Val → Int
  | [], [] => 0
  | [], _ :: _ => -1
  | _ :: _, [] => 1
  | a :: l, b :: r => if p a b = 0 then cmpRA p l r else p a b
def cmpR (s1 s2 : List Val) (p : Val → Val → Int) : Int := cmpRA p s1 s2
theorem cmpR_key (s1 s2 : List Val) (p : Val → Val → Int) (h1 : WL .val s1) (h2 : WL .val s2) : ∀ (ra rb : List Val) (i : Nat), s1.drop i = ra → s2.drop i = rb → i ≤ s1.length → i ≤ s2.length →
    (cmpR_L2 (cmpR_s2 s1 s2 p (i : Int))).bind (thenX cmpR_C2) = some (R_cmpR (cmpRA p ra rb)) := by
  have l1 := h1.len
  intro ra
  induction ra with
  | nil =>
    intro rb i e1 e2 i1 i2
    have n1 : s1.length = i := by have : s1.length ≤ i := List.drop_eq_nil_iff.1 e1
                                  omega
    have hL : cmpR_L2 (cmpR_s2 s1 s2 p (i : Int)) = some (.exit 0, cmpR_s2 s1 s2 p (i : Int)) := by
      rw [cmpR_l2, cndO_eq, if_neg (by rw [decide_eq_true_eq]; omega)]
    rw [loop_end hL, cmpR_a2_x0, cndO_eq]
    cases rb with
    | nil =>
      have : s2.length ≤ i := List.drop_eq_nil_iff.1 e2
      rw [if_neg (by rw [decide_eq_true_eq]; omega)]; rfl
    | cons y rb =>
      have hlt : i < s2.length := by
        rcases Nat.lt_or_ge i s2.length with h | h
        · exact h
        · rw [List.drop_eq_nil_of_le h] at e2; simp at e2
      rw [if_pos (by rw [decide_eq_true_eq]; omega)]; rfl
  | cons x ra ih =>
    intro rb i e1 e2 i1 i2
    obtain ⟨a1, a2, a3, _⟩ := drop_cons e1
    cases rb with
    | nil =>
      have n2 : s2.length ≤ i := List.drop_eq_nil_iff.1 e2
      have hL : cmpR_L2 (cmpR_s2 s1 s2 p (i : Int)) = some (.ret, cmpR_e2_ret s1 s2 p (i : Int) 1) := by
        rw [cmpR_l2, cndO_eq, if_pos (by rw [decide_eq_true_eq]; omega), obO_pos (by omega), cndO_eq, if_pos (by rw [decide_eq_true_eq]; omega)]
      rw [loop_end hL, cmpR_a2_ret]; rfl
    | cons y rb =>
      obtain ⟨b1, b2, b3, _⟩ := drop_cons e2
      by_cases hxy : p x y = 0
      · have hL : cmpR_L2 (cmpR_s2 s1 s2 p (i : Int)) = cmpR_L2 (cmpR_s2 s1 s2 p ((i + 1 : Nat) : Int)) := by
          rw [cmpR_l2, cndO_eq, if_pos (by rw [decide_eq_true_eq]; omega), obO_pos (by omega), cndO_eq, if_neg (by rw [decide_eq_true_eq]; omega), obO_pos (by omega), Int.toNat_natCast, a2, b2, cndO_eq, if_neg (by simp [hxy]), wrap_id (by omega)]
          rfl
        rw [hL, ih rb (i + 1) a3 b3 (by omega) (by omega)]
        simp only [cmpRA, if_pos hxy]
      · have hL : cmpR_L2 (cmpR_s2 s1 s2 p (i : Int)) = some (.ret, cmpR_e2_ret s1 s2 p (i : Int) (p x y)) := by
          rw [cmpR_l2, cndO_eq, if_pos (by rw [decide_eq_true_eq]; omega), obO_pos (by omega), cndO_eq, if_neg (by rw [decide_eq_true_eq]; omega), obO_pos (by omega), Int.toNat_natCast, a2, b2, cndO_eq, if_pos (by simpa using hxy)]
        rw [loop_end hL, cmpR_a2_ret]
        simp only [cmpRA, if_neg hxy]
theorem cmpR_spec (s1 s2 : List Val) (p : Val → Val → Int) (h1 : WL .val s1) (h2 : WL .val s2) : cmpR_fn s1 s2 p = some (R_cmpR (cmpR s1 s2 p)) := by
  rw [cmpR_in]
  exact cmpR_key s1 s2 p h1 h2 s1 s2 0 rfl rfl (Nat.zero_le _) (Nat.zero_le _)
def F_cmpR : FnC Un := fun args => match args with
  | [x0, x1, x2] => (dL .val x0).bind fun s1 => (dL .val x1).bind fun s2 => (dF x2).bind fun p => some ([p = (fv_S_val_S_val_to_i_i64 (pf_S_val_S_val_to_i_i64 p))], A_cmpR (cmpR s1 s2 (pf_S_val_S_val_to_i_i64 p)), O_cmpR (cmpR s1 s2 (pf_S_val_S_val_to_i_i64 p)))
  | _ => none
theorem ok_cmpR : FnOK 23 F_cmpR := by
  intro args ob rs os h hob
  unfold F_cmpR at h
  split at h
  · simp only [Option.bind_eq_some_iff, Option.some.injEq, Prod.mk.injEq] at h
    obtain ⟨s1, e0, s2, e1, p, e2, rfl, rfl, rfl⟩ := h
    obtain rfl := dL_eq e0
    obtain rfl := dL_eq e1
    obtain rfl := dF_eq e2
    have hfv0 := hob _ (List.mem_of_getElem? (i := 0) rfl)
    generalize pf_S_val_S_val_to_i_i64 p = pp0 at *
    subst hfv0
    exact ⟨fn_contractF (M := M_cmpR) rfl (tbl_ok (l1 := []) (l2 := []) (l3 := []) (l4 := []) (l5 := []) trivial trivial trivial trivial trivial) Tryd.func23 (by kernel_rfl) N_cmpR 0 [.d] (fun hwf => (cmpR_spec s1 s2 pp0 (wfArg hwf (a := .d (.v (.dat (U := Un) Ty.val s1))) (List.mem_of_getElem? (i := 0) rfl)) (wfArg hwf (a := .d (.v (.dat (U := Un) Ty.val s2))) (List.mem_of_getElem? (i := 1) rfl)))), hasBody_of Tryd.func23 (by kernel_rfl) (by kernel_rfl)⟩
  · simp at h
def M_value_Orders : Mc Un := mach (tbl [(23, F_cmpR)]) (tbl [(24, V_value_Order)]) (tbl []) (tbl []) (tbl [])
def A_value_Orders (r : Int) : List (A Un) := [.c (.s (.int .i64 r))]
def O_value_Orders (_r : Int) : List (Ob Un) := []
def R_value_Orders (r : Int) : RF Un := (A_value_Orders r, O_value_Orders r)
def N_value_Orders : Nat → NS := fun l => (look l []).getD ⟨[], [], [], [], [], false⟩
def value_Orders_fn (a : List Val) (b : List Val) : Option (RF Un) := awf M_value_Orders N_value_Orders (bodyOf Tryd.f15) (entry Tryd.f15.ntmps 0 [.d (.v (.dat (U := Un) Ty.val a)), .d (.v (.dat (U := Un) Ty.val b))]) (retF M_value_Orders Tryd.f15.results.toList [.d])
theorem value_Orders_in (a : List Val) (b : List Val) : value_Orders_fn a b =
 obO (V_value_Order = fv_S_val_S_val_to_i_i64 (pf_S_val_S_val_to_i_i64 V_value_Order))
  (some (R_value_Orders (cmpR a b (pf_S_val_S_val_to_i_i64 V_value_Order)))) := by kernel_rfl
def value_Orders (a b : List Val) : Int := ordR a b
theorem cmpRA_ord : ∀ a b : List Val, cmpRA ordV a b = ordR a b
  | [], [] => rfl
  | [], _ :: _ => rfl
  | _ :: _, [] => rfl
  | a :: l, b :: r => by simp only [cmpRA, ordR, cmpRA_ord l r]
theorem value_Orders_spec (a b : List Val) (_ha : WL .val a) (_hb : WL .val b) : value_Orders_fn a b = some (R_value_Orders (value_Orders a b)) := by
  have e : pf_S_val_S_val_to_i_i64 (fv_S_val_S_val_to_i_i64 ordV) = ordV := pfv_S_val_S_val_to_i_i64 ordV
  rw [value_Orders_in, V_value_Order_eq, e, obO_pos rfl]
  unfold cmpR value_Orders
  rw [cmpRA_ord]
def F_value_Orders : FnC Un := fun args => match args with
  | [x0, x1] => (dL .val x0).bind fun a => (dL .val x1).bind fun b => some ([], A_value_Orders (value_Orders a b), O_value_Orders (value_Orders a b))
  | _ => none
theorem ok_value_Orders : FnOK 15 F_value_Orders := by
  intro args ob rs os h hob
  unfold F_value_Orders at h
  split at h
  · simp only [Option.bind_eq_some_iff, Option.some.injEq, Prod.mk.injEq] at h
    obtain ⟨a, e0, b, e1, rfl, rfl, rfl⟩ := h
    obtain rfl := dL_eq e0
    obtain rfl := dL_eq e1
    exact ⟨fn_contractF (M := M_value_Orders) rfl (tbl_ok (l1 := [(23, F_cmpR)]) (l2 := [(24, V_value_Order)]) (l3 := []) (l4 := []) (l5 := []) ⟨ok_cmpR, trivial⟩ ⟨okV_value_Order, trivial⟩ trivial trivial trivial) Tryd.func15 (by kernel_rfl) N_value_Orders 0 [.d] (fun hwf => (value_Orders_spec a b (wfArg hwf (a := .d (.v (.dat (U := Un) Ty.val a))) (List.mem_of_getElem? (i := 0) rfl)) (wfArg hwf (a := .d (.v (.dat (U := Un) Ty.val b))) (List.mem_of_getElem? (i := 1) rfl)))), hasBody_of Tryd.func15 (by kernel_rfl) (by kernel_rfl)⟩
  · simp at h
end
end Go.Proofs.YtfdnnfbbjiglcaaDoor.B
namespace Go.Proofs.YtfdnnfbbjiglcaaDoor.B
open Go Go.RowKit Go.Shelf Go.Maps
set_option maxRecDepth 1000000
set_option linter.unusedVariables false
noncomputable section
def keysOK (keys : List (List Val)) : Prop := ∀ r ∈ keys, r.length ≤ 1000000000 ∧ (keyT r).length ≤ 1000000000000
structure TieG (key : Int → List Val) (out : List (List Int)) (D : DataW Unit) : Prop where
  is : IsMap D
  has : ∀ x : List Val, x.length ≤ 1000000000 → (keyT x).length ≤ 1000000000000 → Maps.has D (klOf x) = decide (gAt key x out < out.length)
  at_ : ∀ x : List Val, x.length ≤ 1000000000 → (keyT x).length ≤ 1000000000000 → gAt key x out < out.length → D.atKey (klOf x) (.lit (.int .i64 0)) = .lit (.int .i64 (gAt key x out))
theorem gAt_snoc {key : Int → List Val} {out : List (List Int)} {x : List Val} (i : Int) : gAt key x (out ++ [[i]]) = if gAt key x out < out.length then gAt key x out else if key i = x then out.length else out.length + 1 := by
  unfold gAt
  rw [List.findIdx_append]
  simp only [List.findIdx_singleton, List.headD_cons]
  by_cases h1 : List.findIdx (fun g => decide (key (g.headD 0) = x)) out < out.length
  · rw [if_pos h1, if_pos h1]
  · rw [if_neg h1, if_neg h1]
    by_cases h2 : key i = x <;> simp [h2]; omega
theorem gAt_app {key : Int → List Val} {out : List (List Int)} {x : List Val} {k : Nat} {i : Int} (hk : k < out.length) (hne : out.getD k [] ≠ []) : gAt key x (out.set k (out.getD k [] ++ [i])) = gAt key x out := by
  unfold gAt
  have hm : (out.set k (out.getD k [] ++ [i])).map (fun g => decide (key (g.headD 0) = x)) = out.map (fun g => decide (key (g.headD 0) = x)) := by
    apply List.ext_getElem?
    intro j
    rw [List.getElem?_map, List.getElem?_map, List.getElem?_set]
    by_cases e : k = j
    · subst e
      rw [if_pos rfl, if_pos hk, List.getElem?_eq_getElem hk]
      have : out.getD k [] = out[k] := by rw [List.getD_eq_getElem?_getD, List.getElem?_eq_getElem hk]; rfl
      rw [this] at hne ⊢
      cases hc : out[k] with
      | nil => exact (hne hc).elim
      | cons a r => rfl
    · rw [if_neg e]
  have key2 : ∀ l : List (List Int), l.findIdx (fun g => decide (key (g.headD 0) = x)) = (l.map fun g => decide (key (g.headD 0) = x)).findIdx id := fun l => by rw [List.findIdx_map]; rfl
  rw [key2, key2, hm]
structure RG (w : World) (keys : List (List Val)) (i : Nat) (v : Value) (cs : List Value) (D : DataW Unit) (wr : World) : Prop where
  ext : Ext w wr
  nest : Nest wr (w.heap.size + 1) 30 3 1 0 1 v cs ((gRun (keyAt keys) i).map cellsI)
  own : wr.ownsMap Tryd.prog 39 (plainElem Tryd.prog 3) w.heap.size i D
  tie : TieG (keyAt keys) (gRun (keyAt keys) i) D
  hs : w.heap.size + 1 ≤ wr.heap.size
theorem TieG.app {key : Int → List Val} {out : List (List Int)} {D : DataW Unit} (h : TieG key out D) {k : Nat} {i : Int} (hk : k < out.length) (hne : out.getD k [] ≠ []) : TieG key (out.set k (out.getD k [] ++ [i])) D :=
  ⟨h.is, fun x h1 h2 => by rw [gAt_app hk hne, List.length_set]; exact h.has x h1 h2, fun x h1 h2 h3 => by rw [gAt_app hk hne, List.length_set] at h3; rw [gAt_app hk hne]; exact h.at_ x h1 h2 h3⟩
theorem TieG.push {key : Int → List Val} {out : List (List Int)} {D : DataW Unit} (h : TieG key out D) {x : List Val} {i : Int} (h1 : x.length ≤ 1000000000) (h2 : (keyT x).length ≤ 1000000000000) (hx : key i = x) (hg : ¬ gAt key x out < out.length) (hi : IsMap (D.put (klOf x) (.lit (.int .i64 out.length)))) :
    TieG key (out ++ [[i]]) (D.put (klOf x) (.lit (.int .i64 out.length))) := by
  have hle : ∀ y, gAt key y out ≤ out.length := fun y => List.findIdx_le_length
  refine ⟨hi, fun y y1 y2 => ?_, fun y y1 y2 hlt => ?_⟩
  · rw [gAt_snoc, List.length_append, List.length_singleton]
    by_cases e : y = x
    · subst e
      rw [has_put_same h.is (klOf_is h1 h2), if_neg hg, if_pos hx, decide_eq_true (by omega)]
    · rw [has_put_other (fun e2 => e (klOf_inj y1 y2 h1 h2 e2)), h.has y y1 y2]
      have hl := hle y
      by_cases h3 : gAt key y out < out.length
      · rw [if_pos h3, decide_eq_true h3, decide_eq_true (by omega)]
      · rw [if_neg h3, if_neg (fun e2 => e (e2.symm.trans hx)), decide_eq_false h3, decide_eq_false (by omega)]
  · rw [gAt_snoc] at hlt ⊢
    rw [List.length_append, List.length_singleton] at hlt
    by_cases e : y = x
    · subst e
      rw [if_neg hg, if_pos hx, atKey_put_same h.is (klOf_is h1 h2)]
    · rw [atKey_put_other (fun e2 => e (klOf_inj y1 y2 h1 h2 e2))]
      by_cases h3 : gAt key y out < out.length
      · rw [if_pos h3]; exact h.at_ y y1 y2 h3
      · rw [if_neg h3, if_neg (fun e2 => e (e2.symm.trans hx))] at hlt
        omega
theorem nest_newN {w w6 : World} {base : Nat} {te ti : TypeId} {cp g6 cp6 : Nat} {g : Option Addr} {cs : List Value} {out : List (List Int)} (h : Nest w base te ti 1 0 1 (.slice g out.length cp) cs (out.map cellsI)) {o2 : Obj}
    (ho : w6.ownsRow base te 1 (.slice (some ⟨g6, 0, none⟩) (out.length + 1) cp6) (out.length + 1) (cs ++ [.slice none 0 0])) (hg : (w.alloc o2).grownBy w6 (Value.slice g out.length cp).ownBlock) (hat : (Value.slice g out.length cp).ownBlock = some g6 ∨ g6 = w.heap.size + 1) :
    Nest w6 base te ti 1 0 1 (.slice (some ⟨g6, 0, none⟩) (out ++ [[]]).length cp6) (cs ++ [.slice none 0 0]) ((out ++ [[]]).map cellsI) := by
  have := h.push (w' := w6) (v' := .slice (some ⟨g6, 0, none⟩) (out.length + 1) cp6) [.slice none 0 0] rfl rfl (World.ownsRow_nil _ _ _ _) (fun b hb => by simp [Value.ownBlock] at hb) (by rw [List.length_map]; exact ho)
    ((World.grownBy_alloc w _ _).trans hg) (by
      rcases hat with e | e
      · exact .inl (by rw [e]; rfl)
      · exact .inr ⟨g6, rfl, by omega⟩)
  rw [List.map_append, List.length_append]
  exact this
theorem zeroI (w : World) : (zeroValue 3).run Tryd.prog w = .ok (.int .i64 0) w := by kernel_rfl
set_option maxHeartbeats 8000000 in
theorem groups_walk (keys : List (List Val)) (a : Option Addr) (b off cap : Nat) (kv : Nat → Value) (w : World) (hlen : keys.length ≤ 2000000) (hok : keysOK keys) (ha : keys ≠ [] → a = some ⟨b, off, none⟩ ∧ keys.length ≤ cap)
    (hkeyOf : ∀ (i : Nat) (W : World), Ext w W → i < keys.length → Calls Tryd.prog 18 #[kv i] W fun e W' => e = .returned (keyV (keys.getD i [])) ∧ Ext W W')
    (hcell : ∀ i, i < keys.length → w.cell? ⟨b, off + i, none⟩ = some (kv i)) :
    Calls Tryd.prog 8 #[.slice a keys.length cap] w fun e w' => ∃ v cs, e = .returned v ∧ Ext w w' ∧ Nest w' (w.heap.size + 1) 30 3 1 0 1 v cs ((gRun (keyAt keys) keys.length).map cellsI) := by
  have mixed : Tryd.prog.follows .mixedOrders = true := by kernel_rfl
  have hmm := @run_makeMap Tryd.prog
  go_enter Tryd.func8, Tryd.ntmps8
  go_wp2
  go_loopw [3, 13] (fun s3 s13 wr => ∃ (i cp : Nat) (g : Option Addr) (cs : List Value) (D : DataW Unit), i ≤ keys.length ∧ s3 = .slice g (gRun (keyAt keys) i).length cp ∧ s13 = .int .i64 i ∧ RG w keys i (.slice g (gRun (keyAt keys) i).length cp) cs D wr) (fun _ s13 _ => keys.length - (intOf s13).toNat)
  case atStart =>
    have e0 : gRun (keyAt keys) 0 = [] := rfl
    refine ⟨0, 0, none, [], .map [], Nat.zero_le _, rfl, rfl, ⟨(Ext.refl w).alloc _, by rw [e0]; exact Nest.nil _ _ _ _ _ _ _, World.ownsMap_made _ _ _ _, ⟨⟨[], rfl⟩, fun x _ _ => rfl, fun x _ _ h => by simp [e0] at h⟩, by simp⟩⟩
  case round =>
    obtain ⟨i, cp, g, cs, D, hi, rfl, rfl, hr⟩ := hrel
    have hGI := gRun_ok (keyAt keys) i
    have hgl : (gRun (keyAt keys) i).length ≤ i := gRun_len (keyAt keys) i
    generalize hout : gRun (keyAt keys) i = out at hr hGI hgl
    by_cases hlt : i < keys.length
    · obtain ⟨rfl, hcap⟩ := ha (fun e => by rw [e] at hlt; simp at hlt)
      obtain ⟨x, hxd⟩ : ∃ x, x = keys.getD i [] := ⟨_, rfl⟩
      have hxm : x ∈ keys := by rw [hxd, List.getD_eq_getElem?_getD, List.getElem?_eq_getElem hlt]; exact List.getElem_mem _
      obtain ⟨ok1, ok2⟩ := hok x hxm
      have hkx := hkey x ok1 ok2
      have hka : keyAt keys (i : Int) = x := by rw [hxd]; unfold keyAt; rw [Int.toNat_natCast]
      have hc := hkeyOf i _ hr.ext hlt
      rw [← hxd] at hc
      have d1 := hr.ext.keeps (hcell i hlt)
      unfold keyV at hkx hc
      have k0 : (i : Int) < (keys.length : Int) := by omega
      have th := hr.tie.has x ok1 ok2
      have ta := hr.tie.at_ x ok1 ok2
      rw [hout] at th ta
      have HR := Lib.hid hr
      have HC := Lib.hid hc
      have HX := Lib.hid hkx
      have HA := Lib.hid hka
      have HD := Lib.hid hxd
      clear hr hc hkx hka hxd hxm
      by_cases hg : gAt (keyAt keys) x out < out.length
      · have hhas : Maps.has D (klOf x) = true := th.trans (decide_eq_true hg)
        have TA := Lib.hid (ta hg)
        clear th ta
        obtain ⟨k, hkd⟩ : ∃ k, k = gAt (keyAt keys) x out := ⟨_, rfl⟩
        have HK := Lib.hid hkd
        rw [← hkd] at hg
        clear hkd
        go_upto_region 12 with (first
          | (go_at_call 18; refine HC.out.mono ?_; rintro e W1 ⟨rfl, hx1⟩; have MO := Lib.hid (HR.out.own.kept (grown_of_ext hx1) (by simp)))
          | (at_lookup; refine wpList_lookup_own_ok_int _ rfl _ _ 37 rfl 39 3 .i64 klaw Tryd.underlying37 Tryd.underlying3 (zeroI _) w.heap.size i D rfl (MO.out.alloc _) _ (klOf x) rfl HX.out ?_; intro c hat hwc; have hck : c = (k : Int) := (by rw [TA.out] at hat; simp at hat; rw [HK.out]; exact hat.symm); subst hck))
        have hn := HR.out.nest
        rw [hout] at hn
        obtain ⟨gb, rfl⟩ : ∃ gb, g = some ⟨gb, 0, none⟩ := by
          obtain ⟨_, ⟨_, h0⟩ | ⟨gb, cap, cur, hv, _⟩⟩ := hn.outer
          · rw [List.length_map] at h0; omega
          · simp only [Value.slice.injEq] at hv; exact ⟨gb, hv.1⟩
        have x2 : Ext wr (W1.alloc (Obj.cells #[Value.int .i64 (x.length : Int), Value.string ⟨(keyT x).toArray⟩] 39)) := hx1.trans ((Ext.refl _).alloc _)
        have NS := Lib.hid (hn.kept (grown_of_ext x2) (fun b hb => by simp at hb))
        have MS := Lib.hid (MO.out.alloc (Obj.cells #[Value.int .i64 (x.length : Int), Value.string ⟨(keyT x).toArray⟩] 39))
        have X3 := Lib.hid (HR.out.ext.trans x2)
        clear x2 hn hx1
        generalize W1.alloc (Obj.cells #[Value.int .i64 (x.length : Int), Value.string ⟨(keyT x).toArray⟩] 39) = W' at NS MS X3 ⊢
        obtain ⟨bytes, iI, zI, hby, hbp, _, und, hi0, hi1, hi2, hi3, hi4⟩ := slOf (t := 30) (e := 3) (τ := .int) (by kernel_rfl)
        obtain ⟨u, n1, n2, n3, n4, n5, n6, n7, n8⟩ := nest_at NS.out k hg
        obtain ⟨gl', hgl1⟩ : ∃ gl', (out.getD k []).length = gl' + 1 := ⟨(out.getD k []).length - 1, by have := List.length_pos_iff.2 (hGI.ne k hg); omega⟩
        have hil := GI.len _ hGI k
        rw [hgl1] at n4 hil
        obtain ⟨ub, ucap, rfl, _, _⟩ := n4.form (by omega)
        have c3 : (W'.alloc (Obj.cells #[Value.int .i64 (i : Int)] 3)).cell? ⟨gb, k, none⟩ = some (.slice (some ⟨ub, 0, none⟩) (gl' + 1) ucap) := ((World.grownBy_alloc W' _ none).cell_far _ n6 (by simp)).trans n2
        have f3 : (W'.alloc (Obj.cells #[Value.int .i64 (i : Int)] 3)).frozen? ⟨gb, k, none⟩ = false := ((World.grownBy_alloc W' _ none).frozen_far _ n6 (by simp)).trans n3
        have ne5 : some gb ≠ some ub := by
          rcases n5 with e | e
          · simp [Value.ownBlock] at e
          · exact fun e2 => e e2.symm
        have kk0 : (k : Int) < (out.length : Int) := by omega
        have C3 := Lib.hid c3
        have F3 := Lib.hid f3
        have N1 := Lib.hid n1
        have N4 := Lib.hid n4
        have HG := Lib.hid hgl1
        have GI1 := Lib.hid hGI
        clear c3 f3 n1 n4 n5 hgl1 hGI
        go_wp2_with (first
          | (at_builtin; refine wpList_append_lies _ rfl _ _ _ rfl (w.heap.size + 1) 3 iI zI 1 bytes und hi0 hi3 hi1 hi2 hi4 (by omega) _ _ _ rfl (N4.out.alloc _) ⟨W'.heap.size, 0, none⟩ 1 1 [.int .i64 i] rfl rfl (cell_one_new _ _ _) (ints_oneCell .i64 [(i : Int)]) (by omega) (by unfold maxLen; omega) (Nat.le_trans (Nat.mul_le_mul (show gl' + 1 + 1 ≤ 2000001 by omega) hby) (by decide)) (by simp; omega) _ rfl ?_; intro g5 cap5 w5 hown5 hgrow hat hlt5; have s1 := (hgrow.cell_far ⟨gb, k, none⟩ (by simp; omega) ne5).trans C3.out; have s2 := (hgrow.frozen_far ⟨gb, k, none⟩ (by simp; omega) ne5).trans F3.out; have HO5 := Lib.hid hown5; have HG5 := Lib.hid hgrow; have HA5 := Lib.hid hat; clear hown5 hgrow hat))
        go_roundw
        case rel =>
          have hg2 : gAt (keyAt keys) (keyAt keys (i : Int)) out = k := by rw [HA.out]; exact HK.out.symm
          have hstep : gRun (keyAt keys) (i + 1) = out.set k (out.getD k [] ++ [(i : Int)]) := by
            rw [gRun_succ, hout]; unfold gStep gAdd; rw [hg2, if_pos hg]
          have hpn := nest_put NS.out hg N1.out (by rw [HG.out]; exact HO5.out) HG5.out HA5.out
          have hbu : w.heap.size + 1 ≤ ub := (N4.out.lt ub rfl).1
          have hown2 : (w5.setCell ⟨gb, k, none⟩ (.slice (some ⟨g5, 0, none⟩) (gl' + 1 + 1) cap5)).ownsMap Tryd.prog 39 (plainElem Tryd.prog 3) w.heap.size (i + 1) D :=
            ((((MS.out.alloc _).kept HG5.out (fun e => by have e2 : w.heap.size = ub := Option.some.inj e; omega)).setCell (by show w.heap.size ≠ gb; omega) _).mono (Nat.le_succ _))
          have htie := HR.out.tie
          rw [hout] at htie
          refine ⟨i + 1, cp, some ⟨gb, 0, none⟩, cs.set k (.slice (some ⟨g5, 0, none⟩) (gl' + 1 + 1) cap5), D, by omega, ?_, by go_num, ?_⟩
          · rw [hstep, List.length_set]
          · rw [hstep, List.length_set]
            refine ⟨(ext_grown (X3.out.alloc _) HG5.out (fun b hb => by have := (N4.out.lt b hb).1; omega)).setCell (by show w.heap.size ≤ gb; omega) _, by rw [hstep]; exact hpn, hown2, by rw [hstep]; exact htie.app hg (GI1.out.ne k hg), by have := HG5.out.size; simp at this ⊢; omega⟩
        case measure => simp [intOf]; omega
      · have hhas : Maps.has D (klOf x) = false := th.trans (decide_eq_false hg)
        have HN := Lib.hid hg
        clear th ta hg
        obtain ⟨bO, iO, zO, hbO, _, _, undO, ho0, ho1, ho2, ho3, ho4⟩ := slOf (t := 25) (e := 30) (τ := .ints) (by kernel_rfl)
        obtain ⟨bytes, iI, zI, hby, hbp, _, und, hi0, hi1, hi2, hi3, hi4⟩ := slOf (t := 30) (e := 3) (τ := .int) (by kernel_rfl)
        have hn := HR.out.nest
        rw [hout] at hn
        have HNE := Lib.hid hn
        clear hn
        go_upto_region 12 with (first
          | (go_at_call 18; refine HC.out.mono ?_; rintro e W1 ⟨rfl, hx1⟩; have MO := Lib.hid (HR.out.own.kept (grown_of_ext hx1) (by simp)))
          | (at_lookup; refine wpList_lookup_own_ok_int _ rfl _ _ 37 rfl 39 3 .i64 klaw Tryd.underlying37 Tryd.underlying3 (zeroI _) w.heap.size i D rfl (MO.out.alloc _) _ (klOf x) rfl HX.out ?_; intro c hat hwc)
          | (at_mapUpdate; refine wpList_mapUpdate_own _ rfl _ _ _ 37 rfl 39 3 klaw Tryd.underlying37 _ w.heap.size i D rfl (MO.out.alloc _) (by unfold maxLen; omega) _ _ (klOf x) rfl rfl HX.out (.lit (.int .i64 out.length)) [] (plainElem_int Tryd.underlying3 (WalkArith.wf_i64 (by omega))) ?_; intro w3 hown3 hgrow3; have N3 := Lib.hid ((HNE.out.kept (grown_of_ext (hx1.trans ((Ext.refl _).alloc _))) (fun b hb => by simp at hb)).kept hgrow3 (fun b hb => by cases hb; exact Nat.lt_succ_self _)); have M3 := Lib.hid hown3; have G3 := Lib.hid hgrow3; have NO := Lib.hid (by have h := N3.out.outer; rw [List.length_map] at h; exact h : w3.ownsRow (w.heap.size + 1) 30 1 (.slice g out.length cp) out.length cs); have hsz3 := hgrow3.size; have XW := Lib.hid (ext_grown ((HR.out.ext.trans hx1).alloc _) hgrow3 (fun b hb => by cases hb; exact Nat.le_refl _)); clear hown3 hgrow3)
          | (at_builtin; refine wpList_append_lies _ rfl _ _ _ rfl (w.heap.size + 1) 30 iO zO 1 bO undO ho0 ho3 ho1 ho2 ho4 (by omega) _ _ _ rfl (NO.out.alloc _) ⟨w3.heap.size, 0, none⟩ 1 1 [.slice none 0 0] rfl rfl (cell_one_new _ _ _) (by simp [Value.oneCell']) (by omega) (by unfold maxLen; omega) (Nat.le_trans (Nat.mul_le_mul (show out.length + 1 ≤ 2000001 by omega) hbO) (by decide)) (by have := XW.out.size; have := M3.out.lt; simp; omega) _ rfl ?_; intro g6 cap6 w6 hown6 hgrow6 hat6 hlt6; have HO6 := Lib.hid hown6; have HG6 := Lib.hid hgrow6; have HA6 := Lib.hid hat6; clear hown6 hgrow6 hat6))
        have NS6 := Lib.hid (nest_newN N3.out (o2 := Obj.cells #[Value.slice none 0 0] 30) HO6.out HG6.out ((show (Value.slice g out.length cp).ownBlock = some g6 ∨ g6 = (w3.alloc (Obj.cells #[Value.slice none 0 0] 30)).heap.size from HA6.out).imp id (fun e => by rw [e]; simp)))
        have X6 := Lib.hid (ext_grown (XW.out.alloc _) HG6.out (fun b hb => by have := (NO.out.lt b hb).1; omega))
        have hcl : cs.length = out.length := by have := NO.out.1; rw [Nat.mul_one] at this; exact this
        have M6 := Lib.hid (((M3.out.alloc (Obj.cells #[Value.slice none 0 0] 30)).kept HG6.out (fun e => by have := (NO.out.lt _ e.symm).1; omega)))
        have hkl : out.length < (out ++ [[]]).length := by simp
        have hget : (out ++ [([] : List Int)]).getD out.length [] = [] := by simp
        obtain ⟨u, n1, n2, n3, n4, n5, n6, n7, n8⟩ := nest_at NS6.out out.length hkl
        have hu : u = .slice none 0 0 := by
          rw [← hcl, List.getElem?_append_right (Nat.le_refl _), Nat.sub_self] at n1
          exact (Option.some.inj n1).symm
        subst hu
        rw [hget] at n4
        have hlen1 : (out ++ [([] : List Int)]).length = out.length + 1 := by simp
        rw [hlen1] at n8
        have f3 : (w6.alloc (Obj.cells #[Value.int .i64 (i : Int)] 3)).frozen? ⟨g6, out.length, none⟩ = false := ((World.grownBy_alloc w6 _ none).frozen_far _ n6 (by simp)).trans n3
        have c3 : (w6.alloc (Obj.cells #[Value.int .i64 (i : Int)] 3)).cell? ⟨g6, out.length, none⟩ = some (.slice none 0 0) := ((World.grownBy_alloc w6 _ none).cell_far _ n6 (by simp)).trans n2
        have C3 := Lib.hid c3
        have F3 := Lib.hid f3
        have N1 := Lib.hid n1
        have N4 := Lib.hid n4
        have HL := Lib.hid hlen1
        have HGT := Lib.hid hget
        clear c3 f3 n1 n4 n5 hcl hlen1 hget
        go_wp2_with (first
          | (at_builtin; refine wpList_append_lies _ rfl _ _ _ rfl (w.heap.size + 1) 3 iI zI 1 bytes und hi0 hi3 hi1 hi2 hi4 (by omega) _ _ _ rfl (N4.out.alloc _) ⟨w6.heap.size, 0, none⟩ 1 1 [.int .i64 i] rfl rfl (cell_one_new _ _ _) (ints_oneCell .i64 [(i : Int)]) (by omega) (by unfold maxLen; simp) (Nat.le_trans (Nat.mul_le_mul (show ([] : List Int).length + 1 ≤ 2000001 by simp) hby) (by decide)) (by have := M6.out.lt; simp; omega) _ rfl ?_; intro g5 cap5 w5 hown5 hgrow hat hlt5; have s1 := (hgrow.cell_far ⟨g6, out.length, none⟩ (by simp; omega) (show (some g6 : Option Nat) ≠ (Value.slice none 0 0).ownBlock by simp [Value.ownBlock])).trans C3.out; have s2 := (hgrow.frozen_far ⟨g6, out.length, none⟩ (by simp; omega) (show (some g6 : Option Nat) ≠ (Value.slice none 0 0).ownBlock by simp [Value.ownBlock])).trans F3.out; have HO5 := Lib.hid hown5; have HG5 := Lib.hid hgrow; have HA5 := Lib.hid hat; clear hown5 hgrow hat))
        go_roundw
        case rel =>
          have hng : ¬ gAt (keyAt keys) (keyAt keys (i : Int)) out < out.length := by rw [HA.out]; exact HN.out
          have hstep1 : gRun (keyAt keys) (i + 1) = out ++ [[(i : Int)]] := by
            rw [gRun_succ, hout]; unfold gStep gAdd; rw [if_neg hng]
          have hstep : gRun (keyAt keys) (i + 1) = (out ++ [[]]).set out.length ((out ++ [[]]).getD out.length [] ++ [(i : Int)]) := by
            rw [hstep1, HGT.out]; simp
          have hpn := nest_put NS6.out hkl N1.out (by rw [HGT.out]; exact HO5.out) HG5.out HA5.out
          have htie := HR.out.tie
          rw [hout] at htie
          have hown2 : (w5.setCell ⟨g6, out.length, none⟩ (.slice (some ⟨g5, 0, none⟩) (([] : List Int).length + 1) cap5)).ownsMap Tryd.prog 39 (plainElem Tryd.prog 3) w.heap.size (i + 1) (D.put (klOf x) (.lit (.int .i64 out.length))) :=
            (((M6.out.alloc _).kept HG5.out (show some w.heap.size ≠ (Value.slice none 0 0).ownBlock by simp [Value.ownBlock])).setCell (by show w.heap.size ≠ g6; omega) _)
          refine ⟨i + 1, cap6, some ⟨g6, 0, none⟩, (cs ++ [Value.slice none 0 0]).set out.length (.slice (some ⟨g5, 0, none⟩) (([] : List Int).length + 1) cap5), D.put (klOf x) (.lit (.int .i64 out.length)), by omega, ?_, by go_num, ?_⟩
          · rw [hstep, List.length_set, HL.out]
          · rw [hstep, List.length_set]
            refine ⟨(ext_grown (X6.out.alloc _) HG5.out (fun b hb => by have e2 : (Value.slice none 0 0).ownBlock = some b := hb; simp [Value.ownBlock] at e2)).setCell (by show w.heap.size ≤ g6; omega) _, by rw [hstep]; exact hpn, hown2, ?_, by have := HG5.out.size; have := M6.out.lt; simp at *; omega⟩
            rw [hstep1]
            exact htie.push ok1 ok2 HA.out HN.out M3.out.isMap
        case measure => simp [intOf]; omega
    · go_wp2_with fail
      go_ret
      have : i = keys.length := by omega
      subst this
      exact ⟨_, cs, rfl, hr.ext, hr.nest⟩
theorem nest_ret {St : Nat → Nat → Prop} {w w' : World} {v : Value} {cs : List Value} {out : List (List Int)} (hext : Ext w w') (hbd : ∀ b o, St b o → b < w.heap.size) (h : Nest w' (w.heap.size + 1) 30 3 1 0 1 v cs (out.map cellsI))
    (hb : ∀ k, ∀ x ∈ out.getD k [], -9223372036854775808 ≤ x ∧ x ≤ 9223372036854775807) (hl : out.length ≤ 9223372036854775807) (hl2 : ∀ k, (out.getD k []).length ≤ 9223372036854775807) : Ret Tryd.prog En St w w' v [.c (.ob 0 0)] [⟨0, .ints, out, some 0, true⟩] := by
  have ho := h.outer
  rw [List.length_map] at ho
  have ho2 : w'.ownsRow w.heap.size 30 (sz .ints) v out.length cs := by
    obtain ⟨h1, h2 | ⟨g, cap, cur, e, h3, h4⟩⟩ := ho
    · exact ⟨h1, .inl h2⟩
    · exact ⟨h1, .inr ⟨g, cap, cur, e, by omega, h4⟩⟩
  refine ret_own2 (τ := .ints) (xs := out) (news := cs) hext hbd hl ho2 fun i hi j d hd => ?_
  have hd' : ([.dat (U := Un) Ty.int (out[i]'hi)] : List (V Un))[j]? = some d := hd
  cases j with
  | succ j => simp at hd'
  | zero =>
    simp at hd'; subst hd'
    have hy : (out.map cellsI)[i]? = some (cellsI (out.getD i [])) := by
      rw [List.getElem?_map, List.getElem?_eq_getElem hi, List.getD_eq_getElem?_getD, List.getElem?_eq_getElem hi]; rfl
    obtain ⟨g', cap, u, e1, e2, e0, e3, e4, e5, e6⟩ := h.get (by omega) (by omega) hy
    have e7 : out.getD i [] = out[i] := by rw [List.getD_eq_getElem?_getD, List.getElem?_eq_getElem hi]; rfl
    refine ⟨u, e0, ?_⟩
    rw [← e7]
    refine ints_vrel e5 (hb i) (hl2 i) fun b o hb => .inr ⟨by have := (e5.lt b hb).1; omega, (e5.lt b hb).2, fun e => ?_⟩
    rw [hb] at e6
    rcases e6 with e6 | e6
    · simp at e6
    · exact e6 e.symm
def F_grouper_Groups : FnC Un := fun args => match args with
  | [x0] => (dL .row x0).bind fun keys => some ([keys.length ≤ 2000000 ∧ keysOK keys], [.c (.ob 0 0)], [⟨0, .ints, r33_Groups keys, some 0, true⟩])
  | _ => none
theorem keyOf_calls {St : Nat → Nat → Prop} {w : World} {v : Value} {r : List Val} (h : VRel En St w v (.dat (U := Un) Ty.val r)) (hl : r.length ≤ 1000000000) (ht : (keyT r).length ≤ 1000000000000) (hld : Laid w) :
    Calls Tryd.prog 18 #[v] w fun e w' => e = .returned (keyV r) ∧ Ext w w' := by
  obtain ⟨a, b, off, cap, rfl, ha, hc⟩ := vals_cells h
  exact keyOf_walk r a b off cap w hld hl ht ha hc
theorem ok_grouper_Groups : FnOK 8 F_grouper_Groups := by
  intro args ob rs os h hob
  unfold F_grouper_Groups at h
  split at h
  · simp only [Option.bind_eq_some_iff, Option.some.injEq, Prod.mk.injEq] at h
    obtain ⟨keys, e0, rfl, rfl, rfl⟩ := h
    obtain rfl := dL_eq e0
    obtain ⟨hlen, hok⟩ := hob _ (List.mem_singleton.2 rfl)
    refine ⟨?_, hasBody_of Tryd.func8 (by kernel_rfl) (by kernel_rfl)⟩
    intro w St vs hbd hvs hld
    match vs, hvs with
    | [v0], ⟨h0, _⟩ =>
      obtain ⟨a, b, off, cap, kv, rfl, ha, hc⟩ := rows_cells h0
      refine (groups_walk keys a b off cap kv w hlen hok ha (fun i W hx hi => ?_) (fun i hi => (hc i hi).2.1)).mono ?_
      · have hm : keys.getD i [] ∈ keys := by rw [List.getD_eq_getElem?_getD, List.getElem?_eq_getElem hi]; exact List.getElem_mem _
        exact keyOf_calls ((hc i hi).2.2.mono (ext_keep hx hbd)) (hok _ hm).1 (hok _ hm).2 (hld.ext hx)
      · rintro e w' ⟨v, cs, rfl, hx, hR⟩
        have hg := gRun_len (keyAt keys) keys.length
        have hG := gRun_ok (keyAt keys) keys.length
        exact ⟨v, rfl, nest_ret hx hbd hR (gRun_bd keys hlen) (by show (gRun (keyAt keys) keys.length).length ≤ _; omega) (fun k => by have := GI.len _ hG k; show ((gRun (keyAt keys) keys.length).getD k []).length ≤ _; omega)⟩
  · simp at h
end
end Go.Proofs.YtfdnnfbbjiglcaaDoor.B
namespace Go.Proofs.YtfdnnfbbjiglcaaDoor.B
open Go Go.RowKit Go.Shelf
set_option maxRecDepth 1000000
set_option linter.unusedVariables false
noncomputable section
def Gr (w w' : World) : Prop := ∃ q os, w' = Sort.grow (w.drewN q) os
theorem Gr.refl (w : World) : Gr w w := ⟨0, #[], (Sort.grow_empty w).symm⟩
theorem Gr.trans {a b c : World} (h : Gr a b) (k : Gr b c) : Gr a c := by
  obtain ⟨q, os, rfl⟩ := h
  obtain ⟨q', os', rfl⟩ := k
  refine ⟨q + q', os ++ os', ?_⟩
  rw [← Sort.grow_grow, ← World.drewN_drewN]
  rfl
theorem Gr.alloc {a b : World} (h : Gr a b) (o : Obj) : Gr a (b.alloc o) := h.trans ⟨0, #[o], by
  show World.mk _ _ _ _ _ = World.mk _ _ _ _ _
  congr 1⟩
theorem Gr.drew {a b : World} (h : Gr a b) : Gr a b.drew := h.trans ⟨1, #[], by rw [Sort.grow_empty]; rfl⟩
theorem Gr.ext {a b : World} (h : Gr a b) : Ext a b := by
  obtain ⟨q, os, rfl⟩ := h
  refine ⟨rfl, rfl, rfl, by simp [Sort.grow, World.drewN], fun k hk => ?_⟩
  show (a.heap ++ os)[k]? = _
  rw [Array.getElem?_append_left hk]
def orI : List Int → Int
  | [] => 0
  | z :: r => if z = 0 then orI r else z
theorem or_walk (b off cap : Nat) (zs : List Int) (w : World) (hl : zs.length ≤ 1000000000) (hcap : zs.length ≤ cap) (hc : ∀ i, i < zs.length → w.cell? ⟨b, off + i, none⟩ = some (.int .i64 (zs.getD i 0))) :
    Calls Tryd.prog 33 #[.slice (some ⟨b, off, none⟩) zs.length cap] w fun e w' => e = .returned (.int .i64 (orI zs)) ∧ w' = w := by
  have HCc := Lib.hid hc
  clear hc
  go_enter Tryd.func33, Tryd.ntmps33
  go_wp2
  go_loop [8] (fun s8 => ∃ (i : Nat), i ≤ zs.length ∧ s8 = .int .i64 i ∧ orI (zs.drop i) = orI zs) (fun s8 => zs.length - (intOf s8).toNat)
  case atStart => exact ⟨0, Nat.zero_le _, rfl, rfl⟩
  case round =>
    obtain ⟨i, hi, rfl, ho⟩ := hrel
    by_cases hlt : i < zs.length
    · have h1 := HCc.out i hlt
      have k0 : (i : Int) < (zs.length : Int) := by omega
      have hd : zs.drop i = zs.getD i 0 :: zs.drop (i + 1) := by
        rw [List.drop_eq_getElem_cons hlt, List.getD_eq_getElem?_getD, List.getElem?_eq_getElem hlt]; rfl
      have HO := Lib.hid ho
      have HD := Lib.hid hd
      clear ho hd
      obtain ⟨z, hz⟩ : ∃ z, z = zs.getD i 0 := ⟨_, rfl⟩
      rw [← hz] at h1
      have HZ := Lib.hid hz
      clear hz
      by_cases hz0 : z = 0
      · have hz1 : (z != 0) = false := by simpa using hz0
        go_wp2_with fail
        go_round
        case rel => exact ⟨i + 1, by omega, by go_num, by rw [← HO.out, HD.out, ← HZ.out, orI, if_pos hz0]⟩
        case measure => simp [intOf]; omega
      · have hz1 : (z != 0) = true := by simpa using hz0
        go_wp2_with fail
        go_ret
        exact ⟨by rw [← HO.out, HD.out, ← HZ.out, orI, if_neg hz0]; rfl, rfl⟩
    · go_wp2_with fail
      go_ret
      refine ⟨?_, rfl⟩
      rw [List.drop_of_length_le (by omega)] at ho
      rw [← ho]; rfl
theorem cell_last {W : World} {H : Nat} (hH : W.heap.size = H) (cs : Array Value) (t : TypeId) (i : Nat) (v : Value) (hv : cs[i]? = some v) : (W.alloc (.cells cs t)).cell? ⟨H, i, none⟩ = some v := by
  subst hH
  have : (W.alloc (.cells cs t)).heap[W.heap.size]? = some (.cells cs t (0, 0)) := by
    have : ∀ (h : Array Obj) (o : Obj), (h.push o)[h.size]? = some o := fun h o => by simp
    exact this _ _
  unfold World.cell?
  rw [this]
  simp [hv]
def valV (a : Val) : Value := .agg #[.int .i64 a.kind, .int .i64 a.n, .string a.s]
theorem ord_or (a b : Val) : orI [Lib.compareInt a.kind b.kind, Lib.compareInt a.n b.n, Lib.compareBytes a.s.data.toList b.s.data.toList] = ordV a b := by
  have hc : ∀ x y : Int, Lib.compareInt x y = cmpI x y := fun x y => by
    unfold Lib.compareInt cmpI; rfl
  rw [hc, hc, compareBytes_eq]
  unfold ordV orI orI orI orI cmpS
  rw [← ByteArray.toList_eq, ← ByteArray.toList_eq]
  by_cases h1 : a.kind = b.kind
  · rw [if_pos (cmpI_zero.2 h1), if_pos h1]
    by_cases h2 : a.n = b.n
    · rw [if_pos (cmpI_zero.2 h2), if_pos h2]
      split
      · rename_i h; rw [h]
      · rfl
    · rw [if_neg (fun e => h2 (cmpI_zero.1 e)), if_neg h2]
  · rw [if_neg (fun e => h1 (cmpI_zero.1 e)), if_neg h1]
set_option maxHeartbeats 4000000 in
theorem order_walk (a b : Val) (w : World) : Calls Tryd.prog 24 #[valV a, valV b] w fun e w' => e = .returned (.int .i64 (ordV a b)) ∧ Gr w w' := by
  have mixed : Tryd.prog.follows .mixedOrders = true := by kernel_rfl
  have ho := ord_or a b
  unfold valV
  generalize a.kind = k1 at ho ⊢
  generalize b.kind = k2 at ho ⊢
  generalize a.n = n1 at ho ⊢
  generalize b.n = n2 at ho ⊢
  generalize a.s = s1 at ho ⊢
  generalize b.s = s2 at ho ⊢
  have HO := Lib.hid ho
  clear ho
  generalize ordV a b = r at HO ⊢
  go_enter Tryd.func24, Tryd.ntmps24
  go_wp2
  have g0 : Gr w ((w.alloc (Obj.cells #[Value.int .i64 k1, Value.int .i64 n1, Value.string s1] 35)).alloc (Obj.cells #[Value.int .i64 k2, Value.int .i64 n2, Value.string s2] 35)).drew := (((Gr.refl w).alloc _).alloc _).drew
  have G0 := Lib.hid g0
  clear g0
  go_region_held3 (fun w' => w'.cell? ⟨w.heap.size, 0, none⟩ = some (.int .i64 k1) ∧ w'.cell? ⟨w.heap.size, 1, none⟩ = some (.int .i64 n1) ∧ w'.cell? ⟨w.heap.size, 2, none⟩ = some (.string s1) ∧ w'.cell? ⟨w.heap.size + 1, 0, none⟩ = some (.int .i64 k2) ∧ w'.cell? ⟨w.heap.size + 1, 1, none⟩ = some (.int .i64 n2) ∧ w'.cell? ⟨w.heap.size + 1, 2, none⟩ = some (.string s2)) (go_keep)
    (first
      | (go_at_call 34; refine (Tryd.cmp_Compare_int _ _ _).mono ?_; rintro e w' ⟨rfl, rfl⟩)
      | (go_at_call 35; refine (Tryd.strings_Compare _ _ _).mono ?_; rintro e w' ⟨rfl, rfl⟩)
      | (go_at_call 33; refine (or_walk _ 0 3 [Lib.compareInt k1 k2, Lib.compareInt n1 n2, Lib.compareBytes s1.data.toList s2.data.toList] _ (by simp) (by simp) (fun i hi => by match i, hi with | 0, _ => (simp; exact cell_last (by simp) _ _ _ _ rfl) | 1, _ => (simp; exact cell_last (by simp) _ _ _ _ rfl) | 2, _ => (simp; exact cell_last (by simp) _ _ _ _ rfl))).mono ?_; rintro e w' ⟨rfl, rfl⟩))
  go_wp2
  go_ret
  exact ⟨by rw [← HO.out]; rfl, by first | exact ((((Gr.refl w).alloc _).alloc _).alloc _).drew | simpa using ((((Gr.refl w).alloc _).alloc _).alloc _).drew⟩
set_option maxHeartbeats 8000000 in
theorem compareFunc_walk (r s : List Val) (a1 a2 : Option Addr) (b1 o1 c1 b2 o2 c2 : Nat) (w : World) (hr : r.length ≤ 9223372036854775807) (hs : s.length ≤ 9223372036854775807)
    (h1 : (r ≠ [] → a1 = some ⟨b1, o1, none⟩ ∧ r.length ≤ c1)) (h2 : (s ≠ [] → a2 = some ⟨b2, o2, none⟩ ∧ s.length ≤ c2))
    (hc1 : ∀ i x, r[i]? = some x → w.cell? ⟨b1, o1 + i * 3, none⟩ = some (.int .i64 x.kind) ∧ w.cell? ⟨b1, o1 + i * 3 + 1, none⟩ = some (.int .i64 x.n) ∧ w.cell? ⟨b1, o1 + i * 3 + 2, none⟩ = some (.string x.s))
    (hc2 : ∀ i x, s[i]? = some x → w.cell? ⟨b2, o2 + i * 3, none⟩ = some (.int .i64 x.kind) ∧ w.cell? ⟨b2, o2 + i * 3 + 1, none⟩ = some (.int .i64 x.n) ∧ w.cell? ⟨b2, o2 + i * 3 + 2, none⟩ = some (.string x.s)) :
    Calls Tryd.prog 23 #[.slice a1 r.length c1, .slice a2 s.length c2, .func (.func 24) #[] #[]] w fun e w' => e = .returned (.int .i64 (ordR r s)) ∧ Gr w w' := by
  have H1 := Lib.hid hc1
  have H2 := Lib.hid hc2
  have HA1 := Lib.hid h1
  have HA2 := Lib.hid h2
  clear hc1 hc2 h1 h2
  go_enter Tryd.func23, Tryd.ntmps23
  go_wp2
  go_loopw [13] (fun s13 wr => ∃ (i : Nat), i ≤ r.length ∧ i ≤ s.length ∧ s13 = .int .i64 i ∧ ordR (r.drop i) (s.drop i) = ordR r s ∧ Gr w wr) (fun s13 _ => r.length - (intOf s13).toNat)
  case atStart => exact ⟨0, Nat.zero_le _, Nat.zero_le _, rfl, rfl, Gr.refl w⟩
  case round =>
    obtain ⟨i, hi, hi2, rfl, ho, hg⟩ := hrel
    have HO := Lib.hid ho
    have HG := Lib.hid hg
    clear ho hg
    by_cases hlt : i < r.length
    · obtain ⟨x, hx⟩ : ∃ x, r[i]? = some x := ⟨_, List.getElem?_eq_getElem hlt⟩
      obtain ⟨rfl, hcap⟩ := HA1.out (fun e => by rw [e] at hlt; simp at hlt)
      obtain ⟨c0, c1', c2'⟩ := H1.out i x hx
      have d0 := HG.out.ext.keeps c0
      have d1 := HG.out.ext.keeps c1'
      have d2 := HG.out.ext.keeps c2'
      clear c0 c1' c2'
      have k0 : (i : Int) < (r.length : Int) := by omega
      by_cases hlt2 : i < s.length
      · obtain ⟨y, hy⟩ : ∃ y, s[i]? = some y := ⟨_, List.getElem?_eq_getElem hlt2⟩
        obtain ⟨rfl, hcap2⟩ := HA2.out (fun e => by rw [e] at hlt2; simp at hlt2)
        obtain ⟨c0, c1', c2'⟩ := H2.out i y hy
        have e0 := HG.out.ext.keeps c0
        have e1 := HG.out.ext.keeps c1'
        have e2 := HG.out.ext.keeps c2'
        clear c0 c1' c2'
        have lb2 := lt_of_cell e0
        have nb2 : ¬ (b2 = wr.heap.size) := by have : b2 < wr.heap.size := lb2; omega
        have nb3 : ¬ (wr.heap.size = b2) := by omega
        have k1 : (i : Int) < (s.length : Int) := by omega
        have k2 : ¬ ((s.length : Int) ≤ (i : Int)) := by omega
        have hxy := order_walk x y
        obtain ⟨z, hz⟩ : ∃ z, z = ordV x y := ⟨_, rfl⟩
        rw [← hz] at hxy
        unfold valV at hxy
        have hdr : r.drop i = x :: r.drop (i + 1) := by rw [List.drop_eq_getElem_cons hlt]; rw [List.getElem?_eq_getElem hlt] at hx; rw [Option.some.inj hx]
        have hds : s.drop i = y :: s.drop (i + 1) := by rw [List.drop_eq_getElem_cons hlt2]; rw [List.getElem?_eq_getElem hlt2] at hy; rw [Option.some.inj hy]
        have HXY := Lib.hid hxy
        have HZ := Lib.hid hz
        have HDR := Lib.hid (And.intro hdr hds)
        clear hxy hz hx hy hdr hds
        by_cases hz0 : z = 0
        · have hz1 : (z != 0) = false := by simpa using hz0
          go_wp2_with (first | (go_at_call 24; refine (HXY.out _).mono ?_; rintro e W1 ⟨rfl, hg1⟩; have HG1 := Lib.hid hg1; clear hg1))
          refine ⟨⟨i + 1, by omega, by omega, by go_num, ?_, ((HG.out.alloc _).alloc _).trans HG1.out⟩, by simp [intOf]; omega⟩
          have h := HO.out
          rw [HDR.out.1, HDR.out.2, ordR, if_pos (by rw [← HZ.out]; exact hz0)] at h
          exact h
        · have hz1 : (z != 0) = true := by simpa using hz0
          go_wp2_with (first | (go_at_call 24; refine (HXY.out _).mono ?_; rintro e W1 ⟨rfl, hg1⟩; have HG1 := Lib.hid hg1; clear hg1))
          go_ret
          have h := HO.out
          rw [HDR.out.1, HDR.out.2, ordR, if_neg (by rw [← HZ.out]; exact hz0), ← HZ.out] at h
          exact ⟨by rw [← h]; rfl, ((HG.out.alloc _).alloc _).trans HG1.out⟩
      · have k2 : (s.length : Int) ≤ (i : Int) := by omega
        go_wp2_with fail
        go_ret
        have h := HO.out
        rw [List.drop_of_length_le (show s.length ≤ i by omega), List.drop_eq_getElem_cons hlt, ordR] at h
        exact ⟨by rw [← h]; rfl, HG.out.alloc _⟩
    · have k0 : ¬ ((i : Int) < (r.length : Int)) := by omega
      by_cases hls : r.length < s.length
      · have k1 : (r.length : Int) < (s.length : Int) := by omega
        go_wp2_with fail
        go_ret
        have h := HO.out
        rw [List.drop_of_length_le (show r.length ≤ i by omega), List.drop_eq_getElem_cons (show i < s.length by omega), ordR] at h
        exact ⟨by rw [← h]; rfl, HG.out⟩
      · have k1 : ¬ (r.length : Int) < (s.length : Int) := by omega
        go_wp2_with fail
        go_ret
        have h := HO.out
        rw [List.drop_of_length_le (show r.length ≤ i by omega), List.drop_of_length_le (show s.length ≤ i by omega), ordR] at h
        exact ⟨by rw [← h]; rfl, HG.out⟩
theorem orders_calls {St : Nat → Nat → Prop} {w : World} {u v : Value} {r s : List Val} (hr : VRel En St w u (.dat (U := Un) Ty.val r)) (hs : VRel En St w v (.dat (U := Un) Ty.val s)) : Calls Tryd.prog 15 #[u, v] w fun e w' => e = .returned (.int .i64 (ordR r s)) ∧ Gr w w' := by
  have l1 : r.length ≤ 9223372036854775807 := by rcases hr.inv with ⟨rfl, _⟩ | ⟨_, _, _, _, _, h, _⟩; simp; exact h.2
  have l2 : s.length ≤ 9223372036854775807 := by rcases hs.inv with ⟨rfl, _⟩ | ⟨_, _, _, _, _, h, _⟩; simp; exact h.2
  obtain ⟨a1, b1, o1, c1, rfl, h1, k1⟩ := vals_cells hr
  obtain ⟨a2, b2, o2, c2, rfl, h2, k2⟩ := vals_cells hs
  have hc := compareFunc_walk r s a1 a2 b1 o1 c1 b2 o2 c2 w l1 l2 h1 h2 (fun i x hx => (k1 i x hx).1) (fun i x hx => (k2 i x hx).1)
  clear h1 k1 h2 k2 hr hs
  go_enter Tryd.func15, Tryd.ntmps15
  go_wp2_with (first | (go_at_call 23; refine hc.mono ?_; rintro e W1 ⟨rfl, hg1⟩; have HG1 := Lib.hid hg1; clear hg1))
  go_ret
  exact ⟨rfl, HG1.out⟩
end
end Go.Proofs.YtfdnnfbbjiglcaaDoor.B
namespace Go.Proofs.YtfdnnfbbjiglcaaDoor.B
open Go Go.RowKit Go.Shelf
set_option maxRecDepth 1000000
def ren_sort_ints : Ren := ⟨fun | 6 => 20 | 15 => 32 | 14 => 31 | 28 => 48 | 29 => 49 | 20 => 40 | 21 => 41 | 22 => 42 | 23 => 43 | 24 => 44 | 25 => 45 | 26 => 46 | 27 => 47 | 46 => 56 | 47 => 57 | 48 => 58 | 49 => 59 | 50 => 60 | 57 => 67 | n => n, fun | 22 => 25 | 24 => 30 | 25 => 43 | 3 => 3 | 39 => 61 | 0 => 0 | 53 => 74 | 55 => 76 | 4 => 4 | 46 => 68 | 45 => 67 | 50 => 41 | 5 => 5 | 9 => 9 | 66 => 83 | 70 => 87 | 76 => 93 | 77 => 94 | n => n, fun | n => n⟩
theorem lays_sort_ints : SlLaysF.n6 Tryd.prog ren_sort_ints := {
  mixed := by kernel_rfl
  f6 := ⟨Tryd.f20.name, by kernel_rfl, Tryd.func20.trans (congrArg some (by kernel_rfl))⟩
  f14 := ⟨Tryd.f31.name, by kernel_rfl, Tryd.func31.trans (congrArg some (by kernel_rfl))⟩
  f15 := Tryd.func32.trans (congrArg some (by kernel_rfl))
  f20 := ⟨Tryd.f40.name, by kernel_rfl, Tryd.func40.trans (congrArg some (by kernel_rfl))⟩
  f21 := ⟨Tryd.f41.name, by kernel_rfl, Tryd.func41.trans (congrArg some (by kernel_rfl))⟩
  f22 := ⟨Tryd.f42.name, by kernel_rfl, Tryd.func42.trans (congrArg some (by kernel_rfl))⟩
  f23 := ⟨Tryd.f43.name, by kernel_rfl, Tryd.func43.trans (congrArg some (by kernel_rfl))⟩
  f24 := ⟨Tryd.f44.name, by kernel_rfl, Tryd.func44.trans (congrArg some (by kernel_rfl))⟩
  f25 := ⟨Tryd.f45.name, by kernel_rfl, Tryd.func45.trans (congrArg some (by kernel_rfl))⟩
  f26 := ⟨Tryd.f46.name, by kernel_rfl, Tryd.func46.trans (congrArg some (by kernel_rfl))⟩
  f27 := ⟨Tryd.f47.name, by kernel_rfl, Tryd.func47.trans (congrArg some (by kernel_rfl))⟩
  f28 := Tryd.func48.trans (congrArg some (by kernel_rfl))
  f29 := Tryd.func49.trans (congrArg some (by kernel_rfl))
  f46 := ⟨Tryd.f56.name, by kernel_rfl, Tryd.func56.trans (congrArg some (by kernel_rfl))⟩
  f47 := Tryd.func57.trans (congrArg some (by kernel_rfl))
  f48 := Tryd.func58.trans (congrArg some (by kernel_rfl))
  f49 := ⟨Tryd.f59.name, by kernel_rfl, Tryd.func59.trans (congrArg some (by kernel_rfl))⟩
  f50 := ⟨Tryd.f60.name, by kernel_rfl, Tryd.func60.trans (congrArg some (by kernel_rfl))⟩
  f57 := ⟨Tryd.f67.name, by kernel_rfl, Tryd.func67.trans (congrArg some (by kernel_rfl))⟩
  t0 := Tryd.underlying0
  a0 := Tryd.isAgg0
  z0 := Tryd.sizeOf0
  v0 := Tryd.zeroValue0
  t3 := Tryd.underlying3
  a3 := Tryd.isAgg3
  z3 := Tryd.sizeOf3
  v3 := Tryd.zeroValue3
  t4 := Tryd.underlying4
  a4 := Tryd.isAgg4
  z4 := Tryd.sizeOf4
  v4 := Tryd.zeroValue4
  t5 := Tryd.underlying5
  a5 := Tryd.isAgg5
  z5 := Tryd.sizeOf5
  v5 := Tryd.zeroValue5
  t9 := Tryd.underlying9
  a9 := Tryd.isAgg9
  z9 := Tryd.sizeOf9
  v9 := Tryd.zeroValue9
  t22 := Tryd.underlying25
  a22 := Tryd.isAgg25
  z22 := Tryd.sizeOf25
  v22 := Tryd.zeroValue25
  a24 := Tryd.isAgg30
  z24 := Tryd.sizeOf30
  t25 := Tryd.underlying43
  a25 := Tryd.isAgg43
  z25 := Tryd.sizeOf43
  v25 := Tryd.zeroValue43
  t39 := Tryd.underlying61
  a39 := Tryd.isAgg61
  z39 := Tryd.sizeOf61
  v39 := Tryd.zeroValue61
  t45 := Tryd.underlying67
  a45 := Tryd.isAgg67
  z45 := Tryd.sizeOf67
  v45 := Tryd.zeroValue67
  t46 := Tryd.underlying68
  a46 := Tryd.isAgg68
  z46 := Tryd.sizeOf68
  v46 := Tryd.zeroValue68
  t50 := Tryd.underlying41
  a50 := Tryd.isAgg41
  z50 := Tryd.sizeOf41
  v50 := Tryd.zeroValue41
  t53 := Tryd.underlying74
  a53 := Tryd.isAgg74
  z53 := Tryd.sizeOf74
  v53 := Tryd.zeroValue74
  t55 := Tryd.underlying76
  a55 := Tryd.isAgg76
  z55 := Tryd.sizeOf76
  v55 := Tryd.zeroValue76
  t66 := Tryd.underlying83
  a66 := Tryd.isAgg83
  z66 := Tryd.sizeOf83
  v66 := Tryd.zeroValue83
  t70 := Tryd.underlying87
  a70 := Tryd.isAgg87
  z70 := Tryd.sizeOf87
  v70 := Tryd.zeroValue87
  t76 := Tryd.underlying93
  a76 := Tryd.isAgg93
  z76 := Tryd.sizeOf93
  v76 := Tryd.zeroValue93
  t77 := Tryd.underlying94
  a77 := Tryd.isAgg94
  z77 := Tryd.sizeOf94
  v77 := Tryd.zeroValue94 }
end Go.Proofs.YtfdnnfbbjiglcaaDoor.B
