/- Functions: ref27. (Printed by wip/tools/mkfn.py out of wip/src/ref27.src.) -/
import Derived.Test.YtaepcbdcjbfgjaaBAwf
import Derived.Test.YtaepcbdcjbfgjaaSspec
import Derived.Test.YtaepcbdcjbfgjaaSterms
import Derived.Test.YtaepcbdcjbfgjaaStermsz
import Derived.Test.YtaepcbdcjbfgjaaSconjspec
import Derived.Test.YtaepcbdcjbfgjaaSsorted
import Derived.Test.YtaepcbdcjbfgjaaSbitsub
import Derived.Test.YtaepcbdcjbfgjaaSbits2
import Derived.Test.YtaepcbdcjbfgjaaSconjU
import Derived.Test.YtaepcbdcjbfgjaaSconj2
import Derived.Test.YtaepcbdcjbfgjaaSconj3
import Derived.Test.YtaepcbdcjbfgjaaSconj4
import Derived.Test.YtaepcbdcjbfgjaaSsame
import Derived.Test.YtaepcbdcjbfgjaaSsame2
import Derived.Test.YtaepcbdcjbfgjaaSsame3
import Derived.Test.YtaepcbdcjbfgjaaSsame4
import Derived.Test.YtaepcbdcjbfgjaaSsame5
import Derived.Test.YtaepcbdcjbfgjaaSref03
import Derived.Test.YtaepcbdcjbfgjaaSref15
import Derived.Test.YtaepcbdcjbfgjaaSref15b
import Derived.Test.YtaepcbdcjbfgjaaSref21
import Derived.Test.YtaepcbdcjbfgjaaSref21i
import Derived.Test.YtaepcbdcjbfgjaaSgraph2
namespace Go.Proofs.Ytaepcbdcjbfgjaa.B
open Go Go.RowKit
set_option maxRecDepth 100000
noncomputable section
attribute [local irreducible] awp ctxK itersK iterK retQ retGQ awf ctxF loopF

/-! ### tabellionref27.bits -/
def M_r27_bits : Mc Un := mach (tbl []) (tbl []) (tbl []) (tbl []) (tbl [])
def A_r27_bits (r : Int) : List (A Un) := [.c (.s (.int .i64 r))]
def O_r27_bits (_r : Int) : List (Ob Un) := []
def R_r27_bits (r : Int) : RF Un := (A_r27_bits r, O_r27_bits r)
def N_r27_bits : Nat → NS := fun l => (look l [(3, { ts := bl 17 25, bs := bl 17 0, nm := [] })]).getD ⟨[], [], [], [], []⟩
def r27_bits_s3 (set : Int) (v0 : Int) (v1 : Int) : S Un := (st 17 17 68 0 [(0, ai set), (3, ai v0), (4, ai v1)] [] [])
def r27_bits_B3 : Code := sub (bodyOf Try.f61) [1, 1, 0, 1, 2, 2]
def r27_bits_L3 : S Un → Option (EX Un) := loopF (N_r27_bits 3) (fun s Q => awf M_r27_bits N_r27_bits r27_bits_B3 s Q)
def r27_bits_C3 : Exit → S Un → Option (RF Un) := ctxF M_r27_bits N_r27_bits (bodyOf Try.f61) [1, 1, 0, 1, 2] (retF M_r27_bits Try.f61.results.toList [.d])
def r27_bits_fn (set : Int) : Option (RF Un) := awf M_r27_bits N_r27_bits (bodyOf Try.f61) (entry Try.f61.ntmps 0 [.d (.v (.s (.int .i64 set)))]) (retF M_r27_bits Try.f61.results.toList [.d])
theorem r27_bits_in (set : Int) : r27_bits_fn set =
 (r27_bits_L3 (r27_bits_s3 set (0 : Int) (0 : Int))).bind (thenX r27_bits_C3) := by kernel_rfl
theorem r27_bits_l3 (set : Int) (v0 : Int) (v1 : Int) : r27_bits_L3 (r27_bits_s3 set v0 v1) =
 cndO (decide (v1 < 63))
  (obO (¬v1 < 0)
   (cndO (IntKind.i64.wrap (↑(BitVec.ofInt IntKind.i64.bits set &&& BitVec.ofInt IntKind.i64.bits (IntKind.i64.wrap ((1 : Int) * (2 : Int) ^ min v1.toNat IntKind.i64.bits))).toNat : Int) != (0 : Int))
    (r27_bits_L3 (r27_bits_s3 set (IntKind.i64.wrap (v0 + 1)) (IntKind.i64.wrap (v1 + 1))))
    (r27_bits_L3 (r27_bits_s3 set v0 (IntKind.i64.wrap (v1 + 1))))))
  (some (.exit 0, (r27_bits_s3 set v0 v1))) := (loopF_eq (N_r27_bits 3) r27_bits_B3 _).trans (by kernel_rfl)
theorem r27_bits_a3_x0 (set : Int) (v0 : Int) (v1 : Int) : r27_bits_C3 (.exit 0) (r27_bits_s3 set v0 v1) =
 some (R_r27_bits (v0)) := by kernel_rfl

def r27_bits (set : Int) : Int := ((popW 64 set.toNat : Nat) : Int)
def r27_places (set : Int) : List Int := (placesW 63 0 set.toNat).map fun p : Nat => (p : Int)
theorem range_getD {i : Nat} (h : i < 63) : (List.range' 0 63).getD i 0 = i := by
  rw [List.getD_eq_getElem?_getD, List.getElem?_eq_getElem (by rw [List.length_range']; exact h), List.getElem_range']
  simp
theorem r27_bits_spec (set : Int) (hw : WI set) (h : 0 < set) : r27_bits_fn set = some (R_r27_bits (r27_bits set)) := by
  unfold WI at hw
  obtain ⟨s, rfl⟩ := Int.eq_ofNat_of_zero_le (a := set) (by omega)
  obtain ⟨lp, _⟩ := loop_fold (e := .exit 0) (L := r27_bits_L3) (st := fun (n : Nat) i => r27_bits_s3 (s : Int) (n : Int) i) (l := List.range' 0 63) (d := 0) (g := fun n i => n + (if s.testBit (i - 0) then 1 else 0)) (fun i n => n ≤ i) (by rw [List.length_range']; omega)
    (fun n i x hi hx hI => by
      rw [List.length_range'] at hi
      rw [range_getD (by omega)] at hx
      subst hx
      have hn : n ≤ i := hI
      refine ⟨by show n + (if s.testBit (i - 0) then 1 else 0) ≤ i + 1; split <;> omega, ?_⟩
      rw [r27_bits_l3]
      simp only [cndO_eq, decide_eq_true_eq, Int.toNat_natCast]
      rw [if_pos (by omega), obO_pos (by omega), k_bit (by omega) (by omega), Nat.sub_zero]
      by_cases hb : s.testBit i = true
      · rw [if_pos hb, if_pos hb, wrap_id (n := (n : Int) + 1) (by omega)]
        rfl
      · rw [if_neg hb, if_neg hb]
        rfl)
    (fun n _ => by
      rw [List.length_range', r27_bits_l3]
      rfl) 0 (Nat.le_refl 0)
  rw [r27_bits_in]
  refine (loop_end lp).trans ?_
  rw [r27_bits_a3_x0, pop_count, Nat.zero_add, ← pop_more 63 s (by omega)]
  rfl

def F_r27_bits : FnC Un := fun args => match args with
  | [x0] => (dI .i64 x0).bind fun set => some ([0 < set], A_r27_bits (r27_bits set), O_r27_bits (r27_bits set))
  | _ => none

theorem ok_r27_bits : FnOK 61 F_r27_bits := by
  intro args ob rs os h hob
  unfold F_r27_bits at h
  split at h
  · simp only [Option.bind_eq_some_iff, Option.some.injEq, Prod.mk.injEq] at h
    obtain ⟨set, e0, rfl, rfl, rfl⟩ := h
    obtain rfl := dI_eq e0
    exact ⟨fn_contractF (M := M_r27_bits) rfl (tbl_ok (l1 := []) (l2 := []) (l3 := []) (l4 := []) (l5 := []) trivial trivial trivial trivial trivial) Try.func61 (by kernel_rfl) N_r27_bits 0 [.d] (fun hwf => (r27_bits_spec set (wfArg hwf (a := .d (.v (.s (.int .i64 set)))) (List.mem_of_getElem? (i := 0) rfl)) (hob _ (List.mem_of_getElem? (i := 0) rfl)))), hasBody_of Try.func61 (by kernel_rfl) (by kernel_rfl)⟩
  · simp at h


/-! ### tabellionref27.places -/
def M_r27_places : Mc Un := mach (tbl []) (tbl []) (tbl []) (tbl []) (tbl [])
def A_r27_places (r : List Int) : List (A Un) := [.c (.ob 0 0)]
def O_r27_places (r : List Int) : List (Ob Un) := [⟨0, Ty.int, r, none, true⟩]
def R_r27_places (r : List Int) : RF Un := (A_r27_places r, O_r27_places r)
def N_r27_places : Nat → NS := fun l => (look l [(3, { ts := bl 20 25, bs := bl 20 0, nm := [(.sl 3, 80)] })]).getD ⟨[], [], [], [], []⟩
def r27_places_s3 (set : Int) (v0 : Int) (v1 : List Int) : S Un := (st 20 20 81 0 [(0, ai set), (3, ao 80), (4, ai v0)] [] [(80, some ⟨(0 : Nat), Ty.int, v1, some (0 : Nat), true⟩)])
def r27_places_B3 : Code := sub (bodyOf Try.f62) [1, 1, 0, 1, 2, 2]
def r27_places_L3 : S Un → Option (EX Un) := loopF (N_r27_places 3) (fun s Q => awf M_r27_places N_r27_places r27_places_B3 s Q)
def r27_places_C3 : Exit → S Un → Option (RF Un) := ctxF M_r27_places N_r27_places (bodyOf Try.f62) [1, 1, 0, 1, 2] (retF M_r27_places Try.f62.results.toList [.o])
def r27_places_fn (set : Int) : Option (RF Un) := awf M_r27_places N_r27_places (bodyOf Try.f62) (entry Try.f62.ntmps 1 [.d (.v (.s (.int .i64 set)))]) (retF M_r27_places Try.f62.results.toList [.o])
theorem r27_places_in (set : Int) : r27_places_fn set =
 (r27_places_L3 (r27_places_s3 set (0 : Int) ([]))).bind (thenX r27_places_C3) := by kernel_rfl
theorem r27_places_l3 (set : Int) (v0 : Int) (v1 : List Int) : r27_places_L3 (r27_places_s3 set v0 v1) =
 cndO (decide (v0 < 63))
  (obO (¬v0 < 0)
   (cndO (IntKind.i64.wrap (↑(BitVec.ofInt IntKind.i64.bits set &&& BitVec.ofInt IntKind.i64.bits (IntKind.i64.wrap ((1 : Int) * (2 : Int) ^ min v0.toNat IntKind.i64.bits))).toNat : Int) != (0 : Int))
    (obO ((v1.length + [v0].length) * (8 : Nat) ≤ roomB)
     (r27_places_L3 (r27_places_s3 set (IntKind.i64.wrap (v0 + 1)) (v1 ++ [v0]))))
    (r27_places_L3 (r27_places_s3 set (IntKind.i64.wrap (v0 + 1)) v1))))
  (some (.exit 0, (r27_places_s3 set v0 v1))) := (loopF_eq (N_r27_places 3) r27_places_B3 _).trans (by kernel_rfl)
theorem r27_places_a3_x0 (set : Int) (v0 : Int) (v1 : List Int) : r27_places_C3 (.exit 0) (r27_places_s3 set v0 v1) =
 some (R_r27_places (v1)) := by kernel_rfl

theorem r27_places_spec (set : Int) (hw : WI set) (h : 0 < set) : r27_places_fn set = some (R_r27_places (r27_places set)) := by
  unfold WI at hw
  obtain ⟨s, rfl⟩ := Int.eq_ofNat_of_zero_le (a := set) (by omega)
  obtain ⟨lp, _⟩ := loop_fold (e := .exit 0) (L := r27_places_L3) (st := fun (o : List Int) i => r27_places_s3 (s : Int) i o) (l := List.range' 0 63) (d := 0) (g := fun o i => if s.testBit (i - 0) then o ++ [(i : Int)] else o) (fun i o => o.length ≤ i) (by rw [List.length_range']; omega)
    (fun o i x hi hx hI => by
      rw [List.length_range'] at hi
      rw [range_getD (by omega)] at hx
      subst hx
      have hn : o.length ≤ i := hI
      refine ⟨by
                      show (if s.testBit (i - 0) then o ++ [(i : Int)] else o).length ≤ i + 1
                      split
                      · rw [List.length_append, List.length_singleton]; omega
                      · omega, ?_⟩
      rw [r27_places_l3]
      simp only [cndO_eq, decide_eq_true_eq, Int.toNat_natCast]
      rw [if_pos (by omega), obO_pos (by omega), k_bit (by omega) (by omega), obO_pos (by unfold roomB; rw [List.length_singleton]; omega), Nat.sub_zero]
      by_cases hb : s.testBit i = true
      · rw [if_pos hb, if_pos hb]
      · rw [if_neg hb, if_neg hb])
    (fun o _ => by
      rw [List.length_range', r27_places_l3]
      rfl) [] (Nat.le_refl 0)
  have ff : ∀ (l : List Nat) (o : List Int), l.foldl (fun o i => if s.testBit (i - 0) then o ++ [(i : Int)] else o) o = o ++ (l.filter fun i => s.testBit (i - 0)).map fun p : Nat => (p : Int) := by
    intro l
    induction l with
    | nil => intro o; simp
    | cons x l ih =>
      intro o
      rw [List.foldl_cons, ih, List.filter_cons]
      split <;> simp
  rw [r27_places_in]
  refine (loop_end lp).trans ?_
  rw [r27_places_a3_x0, ff, ← places_bits, List.nil_append]
  rfl

def F_r27_places : FnC Un := fun args => match args with
  | [x0] => (dI .i64 x0).bind fun set => some ([0 < set], A_r27_places (r27_places set), O_r27_places (r27_places set))
  | _ => none

theorem ok_r27_places : FnOK 62 F_r27_places := by
  intro args ob rs os h hob
  unfold F_r27_places at h
  split at h
  · simp only [Option.bind_eq_some_iff, Option.some.injEq, Prod.mk.injEq] at h
    obtain ⟨set, e0, rfl, rfl, rfl⟩ := h
    obtain rfl := dI_eq e0
    exact ⟨fn_contractF (M := M_r27_places) rfl (tbl_ok (l1 := []) (l2 := []) (l3 := []) (l4 := []) (l5 := []) trivial trivial trivial trivial trivial) Try.func62 (by kernel_rfl) N_r27_places 1 [.o] (fun hwf => (r27_places_spec set (wfArg hwf (a := .d (.v (.s (.int .i64 set)))) (List.mem_of_getElem? (i := 0) rfl)) (hob _ (List.mem_of_getElem? (i := 0) rfl)))), hasBody_of Try.func62 (by kernel_rfl) (by kernel_rfl)⟩
  · simp at h


/-! ### tabellionref27.Linked -/
def M_r27_Linked : Mc Un := mach (tbl []) (tbl []) (tbl []) (tbl []) (tbl [])
def A_r27_Linked (r : Bool) : List (A Un) := [.c (.s (.bool r))]
def O_r27_Linked (_r : Bool) : List (Ob Un) := []
def R_r27_Linked (r : Bool) : RF Un := (A_r27_Linked r, O_r27_Linked r)
def N_r27_Linked : Nat → NS := fun l => (look l [(2, { ts := bl 38 199, bs := bl 38 0, nm := [] })]).getD ⟨[], [], [], [], []⟩
def r27_Linked_s2 (masks : List Int) (a : Int) (b : Int) (v0 : Int) : S Un := (st 38 38 152 0 [(0, al .int masks), (1, ai a), (2, ai b), (6, ab false), (7, ai v0)] [] [])
def r27_Linked_e2_ret (masks : List Int) (a : Int) (b : Int) (v0 : Int) (v1 : Bool) : S Un := (st 38 38 152 0 [(0, al .int masks), (1, ai a), (2, ai b), (6, ab v1), (7, ai v0)] [] [])
def r27_Linked_B2 : Code := sub (bodyOf Try.f31) [1, 0, 1, 2, 2]
def r27_Linked_L2 : S Un → Option (EX Un) := loopF (N_r27_Linked 2) (fun s Q => awf M_r27_Linked N_r27_Linked r27_Linked_B2 s Q)
def r27_Linked_C2 : Exit → S Un → Option (RF Un) := ctxF M_r27_Linked N_r27_Linked (bodyOf Try.f31) [1, 0, 1, 2] (retF M_r27_Linked Try.f31.results.toList [.d])
def r27_Linked_fn (masks : List Int) (a : Int) (b : Int) : Option (RF Un) := awf M_r27_Linked N_r27_Linked (bodyOf Try.f31) (entry Try.f31.ntmps 0 [.d (.v (.dat (U := Un) Ty.int masks)), .d (.v (.s (.int .i64 a))), .d (.v (.s (.int .i64 b)))]) (retF M_r27_Linked Try.f31.results.toList [.d])
theorem r27_Linked_in (masks : List Int) (a : Int) (b : Int) : r27_Linked_fn masks a b =
 (r27_Linked_L2 (r27_Linked_s2 masks a b (0 : Int))).bind (thenX r27_Linked_C2) := by kernel_rfl
theorem r27_Linked_l2 (masks : List Int) (a : Int) (b : Int) (v0 : Int) : r27_Linked_L2 (r27_Linked_s2 masks a b v0) =
 cndO (decide (v0 < (↑masks.length : Int)))
  (obO (0 ≤ v0 ∧ v0 < (↑masks.length : Int))
   (cndO (IntKind.i64.wrap (↑(BitVec.ofInt IntKind.i64.bits (masks.getD v0.toNat (0 : Int)) &&& BitVec.ofInt IntKind.i64.bits a).toNat : Int) != (0 : Int))
    (cndO (IntKind.i64.wrap (↑(BitVec.ofInt IntKind.i64.bits (masks.getD v0.toNat (0 : Int)) &&& BitVec.ofInt IntKind.i64.bits b).toNat : Int) != (0 : Int))
     (cndO (IntKind.i64.wrap (↑(BitVec.ofInt IntKind.i64.bits (masks.getD v0.toNat (0 : Int)) &&& BitVec.ofInt IntKind.i64.bits (IntKind.i64.wrap (↑(BitVec.ofInt IntKind.i64.bits a ||| BitVec.ofInt IntKind.i64.bits b).toNat : Int))).toNat : Int) == masks.getD v0.toNat (0 : Int))
      (some (.ret, (r27_Linked_e2_ret masks a b v0 true)))
      (r27_Linked_L2 (r27_Linked_s2 masks a b (IntKind.i64.wrap (v0 + 1)))))
     (r27_Linked_L2 (r27_Linked_s2 masks a b (IntKind.i64.wrap (v0 + 1)))))
    (r27_Linked_L2 (r27_Linked_s2 masks a b (IntKind.i64.wrap (v0 + 1))))))
  (some (.exit 0, (r27_Linked_s2 masks a b v0))) := (loopF_eq (N_r27_Linked 2) r27_Linked_B2 _).trans (by kernel_rfl)
theorem r27_Linked_a2_ret (masks : List Int) (a : Int) (b : Int) (v0 : Int) (v1 : Bool) : r27_Linked_C2 .ret (r27_Linked_e2_ret masks a b v0 v1) =
 some (R_r27_Linked (v1)) := by kernel_rfl
theorem r27_Linked_a2_x0 (masks : List Int) (a : Int) (b : Int) (v0 : Int) : r27_Linked_C2 (.exit 0) (r27_Linked_s2 masks a b v0) =
 some (R_r27_Linked (false)) := by kernel_rfl

def r27_Linked (masks : List Int) (a b : Int) : Bool := masks.any fun m => linkB m a b
theorem r27_Linked_spec (masks : List Int) (a b : Int) (hm : WL .int masks) (_ha : WI a) (_hb : WI b) : r27_Linked_fn masks a b = some (R_r27_Linked (r27_Linked masks a b)) := by
  have key : ∀ (r : List Int) (i : Nat), masks.drop i = r → i ≤ masks.length → (r27_Linked_L2 (r27_Linked_s2 masks a b i)).bind (thenX r27_Linked_C2) = some (R_r27_Linked (r.any fun m => linkB m a b)) := by
    intro r
    induction r with
    | nil =>
      intro i hr hi
      have : masks.length ≤ i := by rw [← List.drop_eq_nil_iff]; exact hr
      have e : r27_Linked_L2 (r27_Linked_s2 masks a b i) = some (.exit 0, r27_Linked_s2 masks a b i) := by rw [r27_Linked_l2, cndO_eq, if_neg (by rw [decide_eq_true_eq]; omega)]
      rw [loop_end e, r27_Linked_a2_x0]; rfl
    | cons x r ih =>
      intro i hr hi
      obtain ⟨a1, a2, a3, hmem⟩ := drop_cons hr
      have hx : masks.getD i 0 = x := a2 0
      have hwx : WI x := (WS_int x).1 (hm.get hmem)
      have hl := link_third (m := x) hwx (IntKind.i64.wrap ((BitVec.ofInt IntKind.i64.bits a ||| BitVec.ofInt IntKind.i64.bits b).toNat : Int))
      have e : r27_Linked_L2 (r27_Linked_s2 masks a b i) = if linkB x a b = true then some (.ret, r27_Linked_e2_ret masks a b i true) else r27_Linked_L2 (r27_Linked_s2 masks a b ((i + 1 : Nat) : Int)) := by
        rw [r27_Linked_l2, cndO_eq, if_pos (by rw [decide_eq_true_eq]; omega), obO_pos (by omega), Int.toNat_natCast, hx, wrap_next a1 hm.len, ← hl]
        unfold linkB
        cases (IntKind.i64.wrap ((BitVec.ofInt IntKind.i64.bits x &&& BitVec.ofInt IntKind.i64.bits a).toNat : Int) != (0 : Int)) <;> cases (IntKind.i64.wrap ((BitVec.ofInt IntKind.i64.bits x &&& BitVec.ofInt IntKind.i64.bits b).toNat : Int) != (0 : Int)) <;> cases (IntKind.i64.wrap ((BitVec.ofInt IntKind.i64.bits x &&& ~~~BitVec.ofInt IntKind.i64.bits (IntKind.i64.wrap ((BitVec.ofInt IntKind.i64.bits a ||| BitVec.ofInt IntKind.i64.bits b).toNat : Int))).toNat : Int) == (0 : Int)) <;> rfl
      rw [List.any_cons]
      by_cases hq : linkB x a b = true
      · rw [if_pos hq] at e
        rw [loop_end e, r27_Linked_a2_ret, hq, Bool.true_or]
      · rw [if_neg hq] at e
        have hq' : linkB x a b = false := by simpa using hq
        rw [e, ih (i + 1) a3 (by omega), hq', Bool.false_or]
  rw [r27_Linked_in]
  exact key masks 0 rfl (Nat.zero_le _)

def F_r27_Linked : FnC Un := fun args => match args with
  | [x0, x1, x2] => (dL .int x0).bind fun masks => (dI .i64 x1).bind fun a => (dI .i64 x2).bind fun b => some ([], A_r27_Linked (r27_Linked masks a b), O_r27_Linked (r27_Linked masks a b))
  | _ => none

theorem ok_r27_Linked : FnOK 31 F_r27_Linked := by
  intro args ob rs os h hob
  unfold F_r27_Linked at h
  split at h
  · simp only [Option.bind_eq_some_iff, Option.some.injEq, Prod.mk.injEq] at h
    obtain ⟨masks, e0, a, e1, b, e2, rfl, rfl, rfl⟩ := h
    obtain rfl := dL_eq e0
    obtain rfl := dI_eq e1
    obtain rfl := dI_eq e2
    exact ⟨fn_contractF (M := M_r27_Linked) rfl (tbl_ok (l1 := []) (l2 := []) (l3 := []) (l4 := []) (l5 := []) trivial trivial trivial trivial trivial) Try.func31 (by kernel_rfl) N_r27_Linked 0 [.d] (fun hwf => (r27_Linked_spec masks a b (wfArg hwf (a := .d (.v (.dat (U := Un) Ty.int masks))) (List.mem_of_getElem? (i := 0) rfl)) (wfArg hwf (a := .d (.v (.s (.int .i64 a)))) (List.mem_of_getElem? (i := 1) rfl)) (wfArg hwf (a := .d (.v (.s (.int .i64 b)))) (List.mem_of_getElem? (i := 2) rfl)))), hasBody_of Try.func31 (by kernel_rfl) (by kernel_rfl)⟩
  · simp at h


/-! ### tabellionref27.Splits -/
def M_r27_Splits : Mc Un := mach (tbl [(61, F_r27_bits), (62, F_r27_places)]) (tbl []) (tbl []) (tbl []) (tbl [])
def A_r27_Splits (r : (List (Int × Int))) : List (A Un) := [.c (.sl (U := Un) Ty.pair r false)]
def O_r27_Splits (_r : (List (Int × Int))) : List (Ob Un) := []
def R_r27_Splits (r : (List (Int × Int))) : RF Un := (A_r27_Splits r, O_r27_Splits r)
def N_r27_Splits : Nat → NS := fun l => (look l [(6, { ts := bl 64 57, bs := bl 64 0, nm := [(.sl 3, 256), (.sl 4, 257)] }), (10, { ts := bl 64 249, bs := bl 64 0, nm := [(.sl 3, 258), (.sl 4, 259)] })]).getD ⟨[], [], [], [], []⟩
def r27_Splits_s6 (set : Int) (v0 : Int) (v1 : List (Int × Int)) : S Un := (st 64 64 260 0 [(0, ai set), (3, ao 256), (4, ao 257), (5, ai v0)] [] [(256, some ⟨(0 : Nat), Ty.pair, v1, some (0 : Nat), true⟩), (257, some ⟨(0 : Nat), Ty.int, r27_places set, none, true⟩)])
def r27_Splits_s10 (set : Int) (v0 : Int) (v1 : List (Int × Int)) (v2 : Int) (v3 : Int) : S Un := (st 64 64 260 0 [(0, ai set), (3, ao 258), (4, ao 259), (5, ai v0), (6, ai v2), (7, ai v3)] [] [(258, some ⟨(0 : Nat), Ty.pair, v1, some (0 : Nat), true⟩), (259, some ⟨(0 : Nat), Ty.int, r27_places set, none, true⟩)])
def r27_Splits_B6 : Code := sub (bodyOf Try.f27) [1, 1, 1, 1, 0, 1, 2, 2]
def r27_Splits_L6 : S Un → Option (EX Un) := loopF (N_r27_Splits 6) (fun s Q => awf M_r27_Splits N_r27_Splits r27_Splits_B6 s Q)
def r27_Splits_B10 : Code := sub (sub (bodyOf Try.f27) [1, 1, 1, 1, 0, 1, 2, 2]) [1, 0, 2, 1, 0, 1, 2, 2]
def r27_Splits_L10 : S Un → Option (EX Un) := loopF (N_r27_Splits 10) (fun s Q => awf M_r27_Splits N_r27_Splits r27_Splits_B10 s Q)
def r27_Splits_C6 : Exit → S Un → Option (RF Un) := ctxF M_r27_Splits N_r27_Splits (bodyOf Try.f27) [1, 1, 1, 1, 0, 1, 2] (retF M_r27_Splits Try.f27.results.toList [.d])
def r27_Splits_C10 : Exit → S Un → Option (EX Un) := ctxF M_r27_Splits N_r27_Splits r27_Splits_B6 [1, 0, 2, 1, 0, 1, 2] (roundF (N_r27_Splits 6) r27_Splits_L6)
def r27_Splits_fn (set : Int) : Option (RF Un) := awf M_r27_Splits N_r27_Splits (bodyOf Try.f27) (entry Try.f27.ntmps 4 [.d (.v (.s (.int .i64 set)))]) (retF M_r27_Splits Try.f27.results.toList [.d])
theorem r27_Splits_in (set : Int) : r27_Splits_fn set =
 cndO (decide (set ≤ 0))
  (some (R_r27_Splits ([])))
  (obO (0 < set)
   (cndO (decide (r27_bits set < 2))
    (some (R_r27_Splits ([])))
    (obO (0 < set)
     (cndO (decide (r27_bits set > 8))
      (some (R_r27_Splits ([])))
      (obO (0 < set)
       ((r27_Splits_L6 (r27_Splits_s6 set (0 : Int) ([]))).bind (thenX r27_Splits_C6))))))) := by kernel_rfl
theorem r27_Splits_l6 (set : Int) (v0 : Int) (v1 : List (Int × Int)) : r27_Splits_L6 (r27_Splits_s6 set v0 v1) =
 obO (¬IntKind.i64.wrap ((↑(r27_places set).length : Int) - (1 : Int)) < 0)
  (cndO (decide (IntKind.i64.wrap (v0 + 1) < IntKind.i64.wrap ((1 : Int) * (2 : Int) ^ min (IntKind.i64.wrap ((↑(r27_places set).length : Int) - (1 : Int))).toNat IntKind.i64.bits)))
   (obO ((0 : Int) ≤ (0 : Int) ∧ (0 : Int) < (↑(r27_places set).length : Int))
    (obO (¬(r27_places set).getD 0 (0 : Int) < (0 : Int))
     ((r27_Splits_L10 (r27_Splits_s10 set v0 v1 (IntKind.i64.wrap ((1 : Int) * (2 : Int) ^ min (Int.toNat ((r27_places set).getD 0 (0 : Int))) IntKind.i64.bits)) (1 : Int))).bind (thenX r27_Splits_C10))))
   (some (.exit 0, (r27_Splits_s6 set v0 v1)))) := (loopF_eq (N_r27_Splits 6) r27_Splits_B6 _).trans (by kernel_rfl)
theorem r27_Splits_a6_x0 (set : Int) (v0 : Int) (v1 : List (Int × Int)) : r27_Splits_C6 (.exit 0) (r27_Splits_s6 set v0 v1) =
 some (R_r27_Splits (v1)) := by kernel_rfl
theorem r27_Splits_l10 (set : Int) (v0 : Int) (v1 : List (Int × Int)) (v2 : Int) (v3 : Int) : r27_Splits_L10 (r27_Splits_s10 set v0 v1 v2 v3) =
 cndO (decide (v3 < (↑(r27_places set).length : Int)))
  (obO (¬IntKind.i64.wrap (v3 - 1) < 0)
   (cndO (IntKind.i64.wrap (↑(BitVec.ofInt IntKind.i64.bits v0 &&& BitVec.ofInt IntKind.i64.bits (IntKind.i64.wrap ((1 : Int) * (2 : Int) ^ min (IntKind.i64.wrap (v3 - 1)).toNat IntKind.i64.bits))).toNat : Int) != (0 : Int))
    (obO (0 ≤ v3 ∧ v3 < (↑(r27_places set).length : Int))
     (obO (¬(r27_places set).getD v3.toNat (0 : Int) < (0 : Int))
      (r27_Splits_L10 (r27_Splits_s10 set v0 v1 (IntKind.i64.wrap (v2 + IntKind.i64.wrap ((1 : Int) * (2 : Int) ^ min (Int.toNat ((r27_places set).getD v3.toNat (0 : Int))) IntKind.i64.bits))) (IntKind.i64.wrap (v3 + 1))))))
    (r27_Splits_L10 (r27_Splits_s10 set v0 v1 v2 (IntKind.i64.wrap (v3 + 1))))))
  (some (.exit 2, (r27_Splits_s10 set v0 v1 v2 v3))) := (loopF_eq (N_r27_Splits 10) r27_Splits_B10 _).trans (by kernel_rfl)
theorem r27_Splits_a10_x2 (set : Int) (v0 : Int) (v1 : List (Int × Int)) (v2 : Int) (v3 : Int) : r27_Splits_C10 (.exit 2) (r27_Splits_s10 set v0 v1 v2 v3) =
 obO ((v1.length + [(v2, IntKind.i64.wrap (set - v2))].length) * (16 : Nat) ≤ roomB)
  (r27_Splits_L6 (r27_Splits_s6 set (IntKind.i64.wrap (v0 + 1)) (v1 ++ [(v2, IntKind.i64.wrap (set - v2))]))) := by kernel_rfl

def r27_Splits (set : Int) : List (Int × Int) := splitsA set
theorem div_bit (k j : Nat) : k.testBit j = decide (k / 2 ^ j % 2 = 1) := by rw [Nat.testBit_eq_decide_div_mod_eq]
theorem r27_inner {s : Nat} (p : Nat) (tl : List Nat) (hpl : placesW 63 0 s = p :: tl) (k : Nat) (hk : k < 2 ^ 62) (v1 : List (Int × Int)) (hlen : tl.length ≤ 60) (hlt : ∀ q ∈ tl, q < 63) (tot : Nat) (htot : tot < 2 ^ 63) : ∀ (r : List Nat) (j acc : Nat), tl.drop j = r → acc + depL r (k / 2 ^ j) = tot →
    r27_Splits_L10 (r27_Splits_s10 (s : Int) (k : Int) v1 (acc : Int) ((j + 1 : Nat) : Int)) = some (.exit 2, r27_Splits_s10 (s : Int) (k : Int) v1 (tot : Int) ((max (j + 1) (tl.length + 1) : Nat) : Int)) := by
  have hP : r27_places (s : Int) = (p :: tl).map fun p : Nat => (p : Int) := by unfold r27_places; rw [Int.toNat_natCast, hpl]
  have hPl : (r27_places (s : Int)).length = tl.length + 1 := by rw [hP, List.length_map, List.length_cons]
  intro r
  induction r with
  | nil =>
    intro j acc hr ha
    have : tl.length ≤ j := by rw [← List.drop_eq_nil_iff]; exact hr
    simp only [depL, Nat.add_zero] at ha
    rw [r27_Splits_l10, cndO_eq, if_neg (by rw [decide_eq_true_eq, hPl]; omega), ha, Nat.max_eq_left (by omega)]
  | cons q r ih =>
    intro j acc hr ha
    obtain ⟨a1, a2, a3, hmem⟩ := drop_cons hr
    have hq := hlt q hmem
    have hg : (r27_places (s : Int)).getD (j + 1) 0 = (q : Int) := by
      rw [hP, List.map_cons, List.getD_cons_succ]
      have := a2 0
      rw [List.getD_eq_getElem?_getD, List.getElem?_eq_getElem a1] at this
      rw [List.getD_eq_getElem?_getD, List.getElem?_map, List.getElem?_eq_getElem a1]
      simp only [Option.map_some, Option.getD_some] at this ⊢
      rw [this]
    simp only [depL] at ha
    rw [Nat.div_div_eq_div_mul, ← Nat.pow_succ, Nat.succ_eq_add_one] at ha
    have h2 : 2 ^ q ≤ 2 ^ 62 := Nat.pow_le_pow_right (by decide) (by omega)
    have hwj : IntKind.i64.wrap (((j + 1 : Nat) : Int) - 1) = (j : Int) := by rw [wrap_id (by omega)]; omega
    have hmax : max (j + 1 + 1) (tl.length + 1) = max (j + 1) (tl.length + 1) := by omega
    rw [r27_Splits_l10]
    simp only [hPl, hwj, cndO_eq, decide_eq_true_eq, Int.toNat_natCast, hg]
    rw [if_pos (by omega), obO_pos (by omega), k_bit (by omega) (by omega), obO_pos (by omega), obO_pos (by omega), k_shl (by omega), div_bit, wrap_next (n := tl.length + 1) (i := j + 1) (by omega) (by omega)]
    by_cases hb : k / 2 ^ j % 2 = 1
    · rw [hb, Nat.one_mul] at ha
      have hs : IntKind.i64.wrap ((acc : Int) + ((2 ^ q : Nat) : Int)) = ((acc + 2 ^ q : Nat) : Int) := by
        generalize 2 ^ q = Q at h2 ha ⊢
        rw [wrap_id (by omega)]; omega
      rw [if_pos (decide_eq_true hb), hs, ih (j + 1) (acc + 2 ^ q) a3 (by omega), hmax]
    · have h0 : k / 2 ^ j % 2 = 0 := by omega
      rw [h0, Nat.zero_mul, Nat.zero_add] at ha
      rw [if_neg (by simpa using hb), ih (j + 1) acc a3 (by omega), hmax]
theorem r27_Splits_spec (set : Int) (hw : WI set) : r27_Splits_fn set = some (R_r27_Splits (r27_Splits set)) := by
  rw [r27_Splits_in]
  unfold r27_Splits splitsA r27_bits
  simp only [cndO_eq, decide_eq_true_eq]
  by_cases h0 : set ≤ 0
  · rw [if_pos h0, if_pos (.inl h0)]
  · unfold WI at hw
    obtain ⟨s, rfl⟩ := Int.eq_ofNat_of_zero_le (a := set) (by omega)
    simp only [Int.toNat_natCast]
    rw [if_neg h0, obO_pos (by omega)]
    by_cases h1 : popW 64 s < 2
    · rw [if_pos (by omega), if_pos (.inr (.inl h1))]
    · by_cases h2 : popW 64 s > 8
      · rw [if_neg (by omega), obO_pos (by omega), if_pos (by omega), if_pos (.inr (.inr h2))]
      · have hs : s < 2 ^ 63 := by omega
        have hs0 : 0 < s := by omega
        obtain ⟨p, q1, _, q3, q4⟩ := places_low 63 0 s hs hs0
        have q1' : placesW 63 0 s = p :: placesW 63 0 (restN s) := q1
        have hrl := rest_lt hs0
        have hlr := low_rest hs hs0
        have q4' : 2 ^ (p - 0) + restN s = s := q4
        have hlow : lowN s = 2 ^ p := by rw [Nat.sub_zero] at q4'; omega
        have hpl := places_len 63 0 s
        have hpm : popW 64 s = popW 63 s := pop_more 63 s hs
        have hK : 2 ^ (popW 64 s - 1) ≤ 2 ^ 7 := Nat.pow_le_pow_right (by decide) (by omega)
        have htl : (placesW 63 0 (restN s)).length = popW 64 s - 1 := by rw [q1', List.length_cons] at hpl; omega
        have hP : r27_places (s : Int) = (p :: placesW 63 0 (restN s)).map fun p : Nat => (p : Int) := by unfold r27_places; rw [Int.toNat_natCast, q1']
        have hPl : (r27_places (s : Int)).length = popW 64 s := by rw [hP, List.length_map, List.length_cons, htl]; omega
        have hP0 : (r27_places (s : Int)).getD 0 0 = (p : Int) := by rw [hP]; rfl
        have hmem : ∀ q ∈ placesW 63 0 (restN s), q < 63 := by
          intro q hq
          rw [places_bits, List.mem_filter, List.mem_range'_1] at hq
          omega
        have hwn : IntKind.i64.wrap ((popW 64 s : Int) - 1) = ((popW 64 s - 1 : Nat) : Int) := by rw [wrap_id (by omega)]; omega
        obtain ⟨lp, _⟩ := loop_fold (e := .exit 0) (L := r27_Splits_L6) (st := fun (o : List (Int × Int)) i => r27_Splits_s6 (s : Int) i o) (l := List.range' 0 (2 ^ (popW 64 s - 1) - 1)) (d := 0) (g := fun o k => o ++ [splitN s k]) (fun i o => o.length = i) (by rw [List.length_range']; omega)
          (fun o i x hi hx hI => by
            rw [List.length_range'] at hi
            have hx' : x = i := by
              rw [← hx, List.getD_eq_getElem?_getD, List.getElem?_eq_getElem (by rw [List.length_range']; omega), List.getElem_range']
              simp
            subst hx'
            have hol : o.length = x := hI
            refine ⟨by show (o ++ [splitN s x]).length = x + 1; rw [List.length_append, List.length_singleton, hol], ?_⟩
            have hdl : 2 ^ p + depL (placesW 63 0 (restN s)) (x / 2 ^ 0) = lowN s + depW 64 (restN s) x := by
              rw [Nat.pow_zero, Nat.div_one, depL_dep, Nat.pow_zero, Nat.one_mul, dep_more 63 _ _ (by omega), hlow]
            have hde := dep_le_rest s x
            have hin := r27_inner p _ q1' x (by omega) o (by omega) hmem (lowN s + depW 64 (restN s) x) (by omega) (placesW 63 0 (restN s)) 0 (2 ^ p) rfl hdl
            have hin' : r27_Splits_L10 (r27_Splits_s10 (s : Int) (x : Int) o ((2 ^ p : Nat) : Int) (1 : Int)) = some (.exit 2, r27_Splits_s10 (s : Int) (x : Int) o ((lowN s + depW 64 (restN s) x : Nat) : Int) ((max (0 + 1) ((placesW 63 0 (restN s)).length + 1) : Nat) : Int)) := hin
            have hwx : IntKind.i64.wrap ((x : Int) + 1) = ((x + 1 : Nat) : Int) := by rw [wrap_id (by omega)]; omega
            have hwy : IntKind.i64.wrap ((s : Int) - ((lowN s + depW 64 (restN s) x : Nat) : Int)) = ((restN s - depW 64 (restN s) x : Nat) : Int) := by rw [wrap_id (by omega)]; omega
            rw [r27_Splits_l6]
            simp only [hPl, hwn, hP0, cndO_eq, decide_eq_true_eq, Int.toNat_natCast]
            rw [obO_pos (by omega), k_shl (by omega), hwx, if_pos (by omega), obO_pos (by omega), obO_pos (by omega), k_shl (by omega), loop_end hin', r27_Splits_a10_x2, obO_pos (by unfold roomB; rw [List.length_singleton]; omega), hwy, hwx]
            rfl)
          (fun o _ => by
            rw [List.length_range', r27_Splits_l6]
            simp only [hPl, hwn, cndO_eq, decide_eq_true_eq, Int.toNat_natCast]
            have hp2 := Nat.two_pow_pos (popW 64 s - 1)
            rw [obO_pos (by omega), k_shl (by omega), wrap_id (n := _ + 1) (by omega), if_neg (by omega)]) [] rfl
        rw [if_neg (by omega), obO_pos (by omega), if_neg (by omega), obO_pos (by omega)]
        refine (loop_end lp).trans ?_
        rw [r27_Splits_a6_x0, foldl_snoc, List.nil_append, if_neg (by omega), List.range_eq_range']

def F_r27_Splits : FnC Un := fun args => match args with
  | [x0] => (dI .i64 x0).bind fun set => some ([], A_r27_Splits (r27_Splits set), O_r27_Splits (r27_Splits set))
  | _ => none

theorem ok_r27_Splits : FnOK 27 F_r27_Splits := by
  intro args ob rs os h hob
  unfold F_r27_Splits at h
  split at h
  · simp only [Option.bind_eq_some_iff, Option.some.injEq, Prod.mk.injEq] at h
    obtain ⟨set, e0, rfl, rfl, rfl⟩ := h
    obtain rfl := dI_eq e0
    exact ⟨fn_contractF (M := M_r27_Splits) rfl (tbl_ok (l1 := [(61, F_r27_bits), (62, F_r27_places)]) (l2 := []) (l3 := []) (l4 := []) (l5 := []) ⟨ok_r27_bits, ok_r27_places, trivial⟩ trivial trivial trivial trivial) Try.func27 (by kernel_rfl) N_r27_Splits 4 [.d] (fun hwf => (r27_Splits_spec set (wfArg hwf (a := .d (.v (.s (.int .i64 set)))) (List.mem_of_getElem? (i := 0) rfl)))), hasBody_of Try.func27 (by kernel_rfl) (by kernel_rfl)⟩
  · simp at h


/-! ### tabellionref27.Mask -/
def M_r27_Mask : Mc Un := mach (tbl [(18, F_r21_Uses)]) (tbl []) (tbl []) (tbl []) (tbl [])
def A_r27_Mask (r : Int) : List (A Un) := [.c (.s (.int .i64 r))]
def O_r27_Mask (_r : Int) : List (Ob Un) := []
def R_r27_Mask (r : Int) : RF Un := (A_r27_Mask r, O_r27_Mask r)
def N_r27_Mask : Nat → NS := fun l => (look l [(5, { ts := bl 71 482, bs := bl 71 0, nm := [(.sl 5, 284)] }), (11, { ts := bl 71 2018, bs := bl 71 0, nm := [(.sl 5, 285)] })]).getD ⟨[], [], [], [], []⟩
def r27_Mask_c1 (t : Term) := r21_Uses (Term.mk t.op t.v t.depth t.at_ t.name t.kids t.sub t.type) (0 : Int)
def r27_Mask_s5 (t : Term) (widths : List Int) (v0 : Int) (v1 : Int) (v2 : Int) : S Un := (st 71 71 286 0 [(1, al .int widths), (5, ao 284), (6, ai v0), (7, ai v1), (8, ai v2)] [] [(284, some ⟨(0 : Nat), Ty.int, r21_Uses (Term.ids t) (0 : Int), none, true⟩)])
def r27_Mask_s11 (t : Term) (widths : List Int) (v0 : Int) (v1 : Int) (v2 : Int) (v3 : Int) (v4 : Int) : S Un := (st 71 71 286 0 [(1, al .int widths), (5, ao 285), (6, ai v0), (7, ai v1), (8, ai v2), (9, ai v3), (10, ai v4)] [] [(285, some ⟨(0 : Nat), Ty.int, r21_Uses (Term.ids t) (0 : Int), none, true⟩)])
def r27_Mask_B5 : Code := sub (bodyOf Try.f29) [1, 1, 1, 1, 0, 1, 2, 2]
def r27_Mask_L5 : S Un → Option (EX Un) := loopF (N_r27_Mask 5) (fun s Q => awf M_r27_Mask N_r27_Mask r27_Mask_B5 s Q)
def r27_Mask_B11 : Code := sub (sub (bodyOf Try.f29) [1, 1, 1, 1, 0, 1, 2, 2]) [1, 0, 2, 1, 1, 0, 1, 2, 2]
def r27_Mask_L11 : S Un → Option (EX Un) := loopF (N_r27_Mask 11) (fun s Q => awf M_r27_Mask N_r27_Mask r27_Mask_B11 s Q)
def r27_Mask_C5 : Exit → S Un → Option (RF Un) := ctxF M_r27_Mask N_r27_Mask (bodyOf Try.f29) [1, 1, 1, 1, 0, 1, 2] (retF M_r27_Mask Try.f29.results.toList [.d])
def r27_Mask_C11 : Exit → S Un → Option (EX Un) := ctxF M_r27_Mask N_r27_Mask r27_Mask_B5 [1, 0, 2, 1, 1, 0, 1, 2] (roundF (N_r27_Mask 5) r27_Mask_L5)
def r27_Mask_fn (t : Term) (widths : List Int) : Option (RF Un) := awf M_r27_Mask N_r27_Mask (bodyOf Try.f29) (entry Try.f29.ntmps 2 [.d (.agg (enc Ty.term t)), .d (.v (.dat (U := Un) Ty.int widths))]) (retF M_r27_Mask Try.f29.results.toList [.d])
theorem r27_Mask_in (t : Term) (widths : List Int) : r27_Mask_fn t widths =
 obO (inOK (0 : Int) (Term.ids t).sz)
  ((r27_Mask_L5 (r27_Mask_s5 t widths (0 : Int) (0 : Int) (0 : Int))).bind (thenX r27_Mask_C5)) := by kernel_rfl
theorem r27_Mask_l5 (t : Term) (widths : List Int) (v0 : Int) (v1 : Int) (v2 : Int) : r27_Mask_L5 (r27_Mask_s5 t widths v0 v1 v2) =
 cndO (decide (v2 < (↑widths.length : Int)))
  (cndO (decide (v2 < 62))
   (obO (0 ≤ v2 ∧ v2 < (↑widths.length : Int))
    (cndO (decide (widths.getD v2.toNat (0 : Int) > (0 : Int)))
     (obO (0 ≤ v2 ∧ v2 < (↑widths.length : Int))
      ((r27_Mask_L11 (r27_Mask_s11 t widths v0 v1 v2 (IntKind.i64.wrap (v1 + List.foldl (fun a b => if b < a then b else a) (widths.getD v2.toNat (0 : Int)) [IntKind.i64.wrap ((2147483648 : Int) - v1)])) (0 : Int))).bind (thenX r27_Mask_C11)))
     ((r27_Mask_L11 (r27_Mask_s11 t widths v0 v1 v2 v1 (0 : Int))).bind (thenX r27_Mask_C11))))
   (some (.exit 0, (r27_Mask_s5 t widths v0 v1 v2))))
  (some (.exit 0, (r27_Mask_s5 t widths v0 v1 v2))) := (loopF_eq (N_r27_Mask 5) r27_Mask_B5 _).trans (by kernel_rfl)
theorem r27_Mask_a5_x0 (t : Term) (widths : List Int) (v0 : Int) (v1 : Int) (v2 : Int) : r27_Mask_C5 (.exit 0) (r27_Mask_s5 t widths v0 v1 v2) =
 some (R_r27_Mask (v0)) := by kernel_rfl
theorem r27_Mask_l11 (t : Term) (widths : List Int) (v0 : Int) (v1 : Int) (v2 : Int) (v3 : Int) (v4 : Int) : r27_Mask_L11 (r27_Mask_s11 t widths v0 v1 v2 v3 v4) =
 cndO (decide (v4 < (↑(r27_Mask_c1 t).length : Int)))
  (obO (0 ≤ v4 ∧ v4 < (↑(r27_Mask_c1 t).length : Int))
   (cndO (decide ((r27_Mask_c1 t).getD v4.toNat (0 : Int) ≥ v1))
    (obO (0 ≤ v4 ∧ v4 < (↑(r27_Mask_c1 t).length : Int))
     (cndO (decide ((r27_Mask_c1 t).getD v4.toNat 0 < v3))
      (obO (¬v2 < 0)
       (cndO (IntKind.i64.wrap (↑(BitVec.ofInt IntKind.i64.bits v0 &&& BitVec.ofInt IntKind.i64.bits (IntKind.i64.wrap ((1 : Int) * (2 : Int) ^ min v2.toNat IntKind.i64.bits))).toNat : Int) == (0 : Int))
        (obO (¬v2 < 0)
         (r27_Mask_L11 (r27_Mask_s11 t widths (IntKind.i64.wrap (v0 + IntKind.i64.wrap ((1 : Int) * (2 : Int) ^ min v2.toNat IntKind.i64.bits))) v1 v2 v3 (IntKind.i64.wrap (v4 + 1)))))
        (r27_Mask_L11 (r27_Mask_s11 t widths v0 v1 v2 v3 (IntKind.i64.wrap (v4 + 1))))))
      (r27_Mask_L11 (r27_Mask_s11 t widths v0 v1 v2 v3 (IntKind.i64.wrap (v4 + 1))))))
    (r27_Mask_L11 (r27_Mask_s11 t widths v0 v1 v2 v3 (IntKind.i64.wrap (v4 + 1))))))
  (some (.exit 2, (r27_Mask_s11 t widths v0 v1 v2 v3 v4))) := (loopF_eq (N_r27_Mask 11) r27_Mask_B11 _).trans (by kernel_rfl)
theorem r27_Mask_a11_x2 (t : Term) (widths : List Int) (v0 : Int) (v1 : Int) (v2 : Int) (v3 : Int) (v4 : Int) : r27_Mask_C11 (.exit 2) (r27_Mask_s11 t widths v0 v1 v2 v3 v4) =
 r27_Mask_L5 (r27_Mask_s5 t widths v0 v3 (IntKind.i64.wrap (v2 + 1))) := by kernel_rfl

def r27_Mask (t : Term) (widths : List Int) : Int := ((maskA (usesA t 0) widths : Nat) : Int)
theorem r27_Mask_inner (t : Term) (widths : List Int) (fr to : Int) (i : Nat) (hi : i < 62) (hl : (usesA t 0).length ≤ 1000000) (o : Nat) (ho : o < 2 ^ i) :
    r27_Mask_L11 (r27_Mask_s11 t widths (o : Int) fr (i : Int) to (0 : Int)) = some (.exit 2, r27_Mask_s11 t widths ((if usesIn (usesA t 0) fr to = true then o + 2 ^ i else o : Nat) : Int) fr (i : Int) to ((usesA t 0).length : Int)) := by
  have hc : r27_Mask_c1 t = usesA t 0 := by unfold r27_Mask_c1; rw [term_eta]; rfl
  have h2i : 2 ^ i ≤ 2 ^ 61 := Nat.pow_le_pow_right (by decide) (by omega)
  obtain ⟨lp, _⟩ := loop_fold (e := .exit 2) (L := r27_Mask_L11) (st := fun (o : Nat) k => r27_Mask_s11 t widths (o : Int) fr (i : Int) to k) (l := usesA t 0) (d := (0 : Int)) (g := fun o u => if u ≥ fr ∧ u < to ∧ o &&& 2 ^ i = 0 then o + 2 ^ i else o) (fun _ o => o < 2 ^ (i + 1)) (by omega)
    (fun o k x hk hx hI => by
      have hI' : o < 2 ^ (i + 1) := hI
      rw [Nat.pow_succ] at hI'
      refine ⟨?_, ?_⟩
      · show (if x ≥ fr ∧ x < to ∧ o &&& 2 ^ i = 0 then o + 2 ^ i else o) < 2 ^ (i + 1)
        split
        · rename_i hc
          have hlt : o < 2 ^ i := by
            rcases Nat.lt_or_ge o (2 ^ i) with e | e
            · exact e
            · exfalso
              have hb : o.testBit i = true := by
                rw [div_bit, decide_eq_true_eq]
                have : o / 2 ^ i = 1 := Nat.div_eq_of_lt_le (by omega) (by omega)
                rw [this]
              have := (and_pow (s := o) (i := i)).2 hb
              rw [hc.2.2] at this
              exact this rfl
          rw [Nat.pow_succ]; omega
        · exact hI
      · rw [r27_Mask_l11]
        simp only [hc, cndO_eq, decide_eq_true_eq, Int.toNat_natCast, hx, beq_iff_eq]
        rw [if_pos (by omega), obO_pos (by omega), obO_pos (by omega), obO_pos (by omega), obO_pos (by omega), k_shl (by omega), k_andNat (by omega) (by omega)]
        by_cases e1 : x ≥ fr
        · by_cases e2 : x < to
          · by_cases e3 : o &&& 2 ^ i = 0
            · have hs : IntKind.i64.wrap ((o : Int) + ((2 ^ i : Nat) : Int)) = ((o + 2 ^ i : Nat) : Int) := by
                generalize 2 ^ i = Q at h2i hI' ⊢
                rw [wrap_id (by omega)]; omega
              rw [if_pos e1, if_pos e2, if_pos (by rw [e3]; rfl), if_pos ⟨e1, e2, e3⟩, hs]
            · rw [if_pos e1, if_pos e2, if_neg (by omega), if_neg (fun e => e3 e.2.2)]
          · rw [if_pos e1, if_neg e2, if_neg (fun e => e2 e.2.1)]
        · rw [if_neg e1, if_neg (fun e => e1 e.1)])
    (fun o _ => by
      rw [r27_Mask_l11]
      simp only [hc, cndO_eq, decide_eq_true_eq]
      rw [if_neg (by omega)]) o (by show o < 2 ^ (i + 1); rw [Nat.pow_succ]; omega)
  rw [mask_inner fr to i (usesA t 0) o ho] at lp
  exact lp
theorem r27_Mask_spec (t : Term) (widths : List Int) (_ht : WS .term t) (hw : WL .int widths) (h : t.sz ≤ 1000000) : r27_Mask_fn t widths = some (R_r27_Mask (r27_Mask t widths)) := by
  have hlen : (widths.take 62).length ≤ 62 ∧ (widths.take 62).length ≤ widths.length := by rw [List.length_take]; omega
  have hul := usesA_len t 0
  obtain ⟨lp, _⟩ := loop_fold (e := .exit 0) (L := r27_Mask_L5) (st := fun (a : Nat × Int × Nat) i => r27_Mask_s5 t widths (a.1 : Int) a.2.1 i) (l := widths.take 62) (d := (0 : Int)) (g := maskStep (usesA t 0)) (fun i a => a.2.2 = i ∧ a.1 < 2 ^ i ∧ 0 ≤ a.2.1 ∧ a.2.1 ≤ 2147483648) (by omega)
    (fun a i x hi hx hI => by
      obtain ⟨h1, h2, h3, h4⟩ : a.2.2 = i ∧ a.1 < 2 ^ i ∧ 0 ≤ a.2.1 ∧ a.2.1 ≤ 2147483648 := hI
      have hn := nextTo_ge (w := x) h4
      have hx2 : widths.getD i 0 = x := by
        rw [← hx, List.getD_eq_getElem?_getD, List.getD_eq_getElem?_getD, List.getElem?_take, if_pos (by omega)]
      refine ⟨?_, ?_⟩
      · show (maskStep (usesA t 0) a x).2.2 = i + 1 ∧ (maskStep (usesA t 0) a x).1 < 2 ^ (i + 1) ∧ 0 ≤ (maskStep (usesA t 0) a x).2.1 ∧ (maskStep (usesA t 0) a x).2.1 ≤ 2147483648
        unfold maskStep
        simp only [h1]
        refine ⟨trivial, by rw [Nat.pow_succ]; split <;> omega, by omega, hn.2⟩
      · have hwi : IntKind.i64.wrap ((i : Int) + 1) = ((i + 1 : Nat) : Int) := by rw [wrap_id (by omega)]; omega
        rw [r27_Mask_l5]
        simp only [fMin, Int.toNat_natCast, hx2, cndO_eq, decide_eq_true_eq]
        rw [if_pos (by omega), if_pos (by omega), obO_pos (by omega), obO_pos (by omega), loop_end (r27_Mask_inner t widths _ _ i (by omega) (by omega) _ h2), loop_end (r27_Mask_inner t widths _ _ i (by omega) (by omega) _ h2), r27_Mask_a11_x2, r27_Mask_a11_x2]
        unfold maskStep
        simp only [h1]
        by_cases hx0 : x > 0
        · have hto : IntKind.i64.wrap (a.2.1 + min x (IntKind.i64.wrap (2147483648 - a.2.1))) = nextTo a.2.1 x := by
            rw [wrap_id (n := 2147483648 - a.2.1) (by omega), wrap_id (by omega)]
            unfold nextTo; omega
          rw [if_pos hx0, hto]
        · have hto : nextTo a.2.1 x = a.2.1 := by unfold nextTo; omega
          rw [if_neg hx0, hto])
    (fun a _ => by
      rw [r27_Mask_l5]
      simp only [cndO_eq, decide_eq_true_eq]
      have hlt := List.length_take (i := 62) (l := widths)
      by_cases hc : ((widths.take 62).length : Int) < (widths.length : Int)
      · rw [if_pos hc, if_neg (by omega)]
      · rw [if_neg hc]) (0, 0, 0) (show (0 : Nat) = 0 ∧ 0 < 2 ^ 0 ∧ (0 : Int) ≤ 0 ∧ (0 : Int) ≤ 2147483648 from ⟨rfl, by decide, by decide, by decide⟩)
  rw [r27_Mask_in, Term.ids_eq, obO_pos (show inOK 0 t.sz from ⟨by omega, by omega, h⟩)]
  refine (loop_end lp).trans ?_
  rw [r27_Mask_a5_x0, mask_fold]
  rfl

def F_r27_Mask : FnC Un := fun args => match args with
  | [x0, x1] => (dS .term x0).bind fun t => (dL .int x1).bind fun widths => some ([t.sz ≤ 1000000], A_r27_Mask (r27_Mask t widths), O_r27_Mask (r27_Mask t widths))
  | _ => none

theorem ok_r27_Mask : FnOK 29 F_r27_Mask := by
  intro args ob rs os h hob
  unfold F_r27_Mask at h
  split at h
  · simp only [Option.bind_eq_some_iff, Option.some.injEq, Prod.mk.injEq] at h
    obtain ⟨t, e0, widths, e1, rfl, rfl, rfl⟩ := h
    obtain rfl := dS_eq e0
    obtain rfl := dL_eq e1
    exact ⟨fn_contractF (M := M_r27_Mask) rfl (tbl_ok (l1 := [(18, F_r21_Uses)]) (l2 := []) (l3 := []) (l4 := []) (l5 := []) ⟨ok_r21_Uses, trivial⟩ trivial trivial trivial trivial) Try.func29 (by kernel_rfl) N_r27_Mask 2 [.d] (fun hwf => (r27_Mask_spec t widths (wfArg hwf (a := .d (.agg (enc Ty.term t))) (List.mem_of_getElem? (i := 0) rfl)) (wfArg hwf (a := .d (.v (.dat (U := Un) Ty.int widths))) (List.mem_of_getElem? (i := 1) rfl)) (hob _ (List.mem_of_getElem? (i := 0) rfl)))), hasBody_of Try.func29 (by kernel_rfl) (by kernel_rfl)⟩
  · simp at h


end
end Go.Proofs.Ytaepcbdcjbfgjaa.B
