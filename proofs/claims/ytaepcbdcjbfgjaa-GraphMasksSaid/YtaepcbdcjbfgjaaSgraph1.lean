/- Functions: graph1. (Printed by wip/tools/mkfn.py out of wip/src/graph1.src.) -/
import Derived.Test.YtaepcbdcjbfgjaaBAwf
import Derived.Test.YtaepcbdcjbfgjaaSspec
import Derived.Test.YtaepcbdcjbfgjaaSterms
import Derived.Test.YtaepcbdcjbfgjaaStermsz
import Derived.Test.YtaepcbdcjbfgjaaSconjspec
import Derived.Test.YtaepcbdcjbfgjaaSsorted
import Derived.Test.YtaepcbdcjbfgjaaSbitsub
import Derived.Test.YtaepcbdcjbfgjaaSbits2
import Derived.Test.YtaepcbdcjbfgjaaSconjU
import Derived.Test.YtaepcbdcjbfgjaaSconj2
import Derived.Test.YtaepcbdcjbfgjaaSconj3
import Derived.Test.YtaepcbdcjbfgjaaSconj4
namespace Go.Proofs.Ytaepcbdcjbfgjaa.B
open Go Go.RowKit
set_option maxRecDepth 100000
noncomputable section
attribute [local irreducible] awp ctxK itersK iterK retQ retGQ awf ctxF loopF

/-! ### graph.count -/
def M_graph_count : Mc Un := mach (tbl []) (tbl []) (tbl []) (tbl []) (tbl [])
def A_graph_count (r : Int) : List (A Un) := [.c (.s (.int .i64 r))]
def O_graph_count (_r : Int) : List (Ob Un) := []
def R_graph_count (r : Int) : RF Un := (A_graph_count r, O_graph_count r)
def N_graph_count : Nat → NS := fun l => (look l [(2, { ts := bl 13 9, bs := bl 13 0, nm := [] })]).getD ⟨[], [], [], [], []⟩
def graph_count_s2 (v0 : Int) (v1 : Int) : S Un := (st 13 13 52 0 [(0, ai v0), (3, ai v1)] [] [])
def graph_count_B2 : Code := sub (bodyOf Try.f60) [1, 1, 0, 2, 2]
def graph_count_L2 : S Un → Option (EX Un) := loopF (N_graph_count 2) (fun s Q => awf M_graph_count N_graph_count graph_count_B2 s Q)
def graph_count_C2 : Exit → S Un → Option (RF Un) := ctxF M_graph_count N_graph_count (bodyOf Try.f60) [1, 1, 0, 2] (retF M_graph_count Try.f60.results.toList [.d])
def graph_count_fn (set : Int) : Option (RF Un) := awf M_graph_count N_graph_count (bodyOf Try.f60) (entry Try.f60.ntmps 0 [.d (.v (.s (.int .i64 set)))]) (retF M_graph_count Try.f60.results.toList [.d])
theorem graph_count_in (set : Int) : graph_count_fn set =
 (graph_count_L2 (graph_count_s2 set (0 : Int))).bind (thenX graph_count_C2) := by kernel_rfl
theorem graph_count_l2 (v0 : Int) (v1 : Int) : graph_count_L2 (graph_count_s2 v0 v1) =
 cndO (decide (v0 > 0))
  (graph_count_L2 (graph_count_s2 (IntKind.i64.wrap (↑(BitVec.ofInt IntKind.i64.bits v0 &&& BitVec.ofInt IntKind.i64.bits (IntKind.i64.wrap (v0 - 1))).toNat : Int)) (IntKind.i64.wrap (v1 + 1))))
  (some (.exit 0, (graph_count_s2 v0 v1))) := (loopF_eq (N_graph_count 2) graph_count_B2 _).trans (by kernel_rfl)
theorem graph_count_a2_x0 (v0 : Int) (v1 : Int) : graph_count_C2 (.exit 0) (graph_count_s2 v0 v1) =
 some (R_graph_count (v1)) := by kernel_rfl

def graph_count (set : Int) : Int := if set ≤ 0 then 0 else ((popW 64 set.toNat : Nat) : Int)
theorem graph_count_loop : ∀ (n s : Nat) (v1 : Int), s < n → s < 2 ^ 63 → 0 ≤ v1 → v1 + (popW 64 s : Nat) ≤ 1000 → graph_count_L2 (graph_count_s2 (s : Int) v1) = some (.exit 0, graph_count_s2 ((0 : Nat) : Int) (v1 + ((popW 64 s : Nat) : Int))) := by
  intro n
  induction n with
  | zero => intro s v1 h; omega
  | succ n ih =>
    intro s v1 h hs h0 hv
    rw [graph_count_l2, cndO_eq]
    by_cases hz : s = 0
    · subst hz
      rw [if_neg (by decide), popW_zero]
      simp
    · have hk := kern_lt (s := s) (by omega)
      have hp := kern_pop (w := 64) (s := s) (by omega) (by omega)
      have e : IntKind.i64.wrap ((s : Int) - 1) = ((s - 1 : Nat) : Int) := by rw [wrap_id (by omega)]; omega
      rw [if_pos (by rw [decide_eq_true_eq]; omega), e, k_andNat hs (by omega), wrap_id (n := v1 + 1) (by omega), ih (s &&& (s - 1)) (v1 + 1) (by omega) (by omega) (by omega) (by omega)]
      congr 3
      omega
theorem graph_count_spec (set : Int) (h : WI set) : graph_count_fn set = some (R_graph_count (graph_count set)) := by
  rw [graph_count_in]
  unfold graph_count
  by_cases h0 : set ≤ 0
  · have e : graph_count_L2 (graph_count_s2 set (0 : Int)) = some (.exit 0, graph_count_s2 set (0 : Int)) := by rw [graph_count_l2, cndO_eq, if_neg (by rw [decide_eq_true_eq]; omega)]
    rw [loop_end e, graph_count_a2_x0, if_pos h0]
  · unfold WI at h
    obtain ⟨s, rfl⟩ := Int.eq_ofNat_of_zero_le (a := set) (by omega)
    have hp := popW_le 64 s
    rw [loop_end (graph_count_loop (s + 1) s 0 (by omega) (by omega) (by omega) (by omega)), graph_count_a2_x0, if_neg h0, Int.toNat_natCast, Int.zero_add]

def F_graph_count : FnC Un := fun args => match args with
  | [x0] => (dI .i64 x0).bind fun set => some ([], A_graph_count (graph_count set), O_graph_count (graph_count set))
  | _ => none

theorem ok_graph_count : FnOK 60 F_graph_count := by
  intro args ob rs os h hob
  unfold F_graph_count at h
  split at h
  · simp only [Option.bind_eq_some_iff, Option.some.injEq, Prod.mk.injEq] at h
    obtain ⟨set, e0, rfl, rfl, rfl⟩ := h
    obtain rfl := dI_eq e0
    exact ⟨fn_contractF (M := M_graph_count) rfl (tbl_ok (l1 := []) (l2 := []) (l3 := []) (l4 := []) (l5 := []) trivial trivial trivial trivial trivial) Try.func60 (by kernel_rfl) N_graph_count 0 [.d] (fun hwf => (graph_count_spec set (wfArg hwf (a := .d (.v (.s (.int .i64 set)))) (List.mem_of_getElem? (i := 0) rfl)))), hasBody_of Try.func60 (by kernel_rfl) (by kernel_rfl)⟩
  · simp at h


/-! ### graph.Linked$1 -/
def M_linked1 : Mc Un := mach (tbl []) (tbl []) (tbl []) (tbl []) (tbl [])
def A_linked1 (r : Bool) : List (A Un) := [.c (.s (.bool r))]
def O_linked1 (_r : Bool) : List (Ob Un) := []
def R_linked1 (r : Bool) : RF Un := (A_linked1 r, O_linked1 r)
def N_linked1 : Nat → NS := fun l => (look l []).getD ⟨[], [], [], [], []⟩
def linked1_fn (m : Int) (a : Int) (b : Int) : Option (RF Un) := awf M_linked1 N_linked1 (bodyOf Try.f64) (entry Try.f64.ntmps 0 [.d (.v (.s (.int .i64 m))), .box [.v (.s (.int .i64 a))], .box [.v (.s (.int .i64 b))]]) (retF M_linked1 Try.f64.results.toList [.d])
theorem linked1_in (m : Int) (a : Int) (b : Int) : linked1_fn m a b =
 cndO (IntKind.i64.wrap (↑(BitVec.ofInt IntKind.i64.bits m &&& BitVec.ofInt IntKind.i64.bits a).toNat : Int) != (0 : Int))
  (cndO (IntKind.i64.wrap (↑(BitVec.ofInt IntKind.i64.bits m &&& BitVec.ofInt IntKind.i64.bits b).toNat : Int) != (0 : Int))
   (some (R_linked1 (IntKind.i64.wrap (↑(BitVec.ofInt IntKind.i64.bits m &&& ~~~BitVec.ofInt IntKind.i64.bits (IntKind.i64.wrap (↑(BitVec.ofInt IntKind.i64.bits a ||| BitVec.ofInt IntKind.i64.bits b).toNat : Int))).toNat : Int) == (0 : Int))))
   (some (R_linked1 (false))))
  (some (R_linked1 (false))) := by kernel_rfl

theorem cndO_andB {β : Type} (R : Bool → β) {q x : Bool} : cndO q (some (R x)) (some (R false)) = some (R (q && x)) := by cases q <;> rfl
def linked1 (m a b : Int) : Bool := linkB m a b
theorem linked1_spec (m a b : Int) (_hm : WI m) (_ha : WI a) (_hb : WI b) : linked1_fn m a b = some (R_linked1 (linked1 m a b)) := by
  rw [linked1_in]
  simp only [cndO_andB R_linked1]
  rfl

def L_linked1 : List (List (DC Un)) → Option (FV Un) := fun dl => match dl with
  | [b0, b1] => (bI .i64 b0).bind fun a => (bI .i64 b1).bind fun b => some (fv_i_i64_to_b (fun m => linked1 m a b))
  | _ => none

theorem okL_linked1 : ClOK 64 L_linked1 := by
  refine ⟨hasBody_of Try.func64 (by kernel_rfl) (by kernel_rfl), fun dl φ args ob rs hF hφ hob => ?_⟩
  unfold L_linked1 at hF
  split at hF
  · simp only [Option.bind_eq_some_iff, Option.some.injEq] at hF
    obtain ⟨a, g0, b, g1, hE⟩ := hF
    subst hE
    obtain rfl := bI_eq g0
    obtain rfl := bI_eq g1
    unfold fv_i_i64_to_b at hφ
    split at hφ
    · simp only [Option.bind_eq_some_iff, Option.some.injEq, Prod.mk.injEq] at hφ
      obtain ⟨m, e0, rfl, rfl⟩ := hφ
      simp only [List.map_cons, List.map_nil, List.cons_append, List.nil_append]
      rw [dI_eq e0]
      exact Contract.data (fn_contractF (M := M_linked1) rfl (tbl_ok (l1 := []) (l2 := []) (l3 := []) (l4 := []) (l5 := []) trivial trivial trivial trivial trivial) Try.func64 (by kernel_rfl) N_linked1 0 [.d] (fun hwf => (linked1_spec m a b (wfArg hwf (a := .d (.v (.s (.int .i64 m)))) (List.mem_of_getElem? (i := 0) rfl)) (wfArg hwf (a := .box [.v (.s (.int .i64 a))]) (List.mem_of_getElem? (i := 1) rfl)) (wfArg hwf (a := .box [.v (.s (.int .i64 b))]) (List.mem_of_getElem? (i := 2) rfl)))))
    · simp at hφ
  · simp at hF


/-! ### graph.Linked -/
def M_graph_Linked : Mc Un := mach (tbl [(50, F_conf_int)]) (tbl []) (tbl [(64, L_linked1)]) (tbl []) (tbl [])
def A_graph_Linked (r : Bool) : List (A Un) := [.c (.s (.bool r))]
def O_graph_Linked (_r : Bool) : List (Ob Un) := []
def R_graph_Linked (r : Bool) : RF Un := (A_graph_Linked r, O_graph_Linked r)
def N_graph_Linked : Nat → NS := fun l => (look l []).getD ⟨[], [], [], [], []⟩
def graph_Linked_fn (masks : List Int) (a : Int) (b : Int) : Option (RF Un) := awf M_graph_Linked N_graph_Linked (bodyOf Try.f30) (entry Try.f30.ntmps 0 [.d (.v (.dat (U := Un) Ty.int masks)), .d (.v (.s (.int .i64 a))), .d (.v (.s (.int .i64 b)))]) (retF M_graph_Linked Try.f30.results.toList [.d])
theorem graph_Linked_in (masks : List Int) (a : Int) (b : Int) : graph_Linked_fn masks a b =
 obO ((fv_i_i64_to_b fun m => linked1 m a b) = fv_i_i64_to_b (pf_i_i64_to_b (fv_i_i64_to_b fun m => linked1 m a b)))
  (some (R_graph_Linked (conf_int masks (pf_i_i64_to_b (fv_i_i64_to_b fun m => linked1 m a b))))) := by kernel_rfl

def graph_Linked (masks : List Int) (a b : Int) : Bool := masks.any fun m => linkB m a b
theorem graph_Linked_spec (masks : List Int) (a b : Int) (_hm : WL .int masks) (_ha : WI a) (_hb : WI b) : graph_Linked_fn masks a b = some (R_graph_Linked (graph_Linked masks a b)) := by
  rw [graph_Linked_in]
  simp only [pfv_i_i64_to_b, conf_int_eq]
  rw [obO_pos trivial]
  rfl

def F_graph_Linked : FnC Un := fun args => match args with
  | [x0, x1, x2] => (dL .int x0).bind fun masks => (dI .i64 x1).bind fun a => (dI .i64 x2).bind fun b => some ([], A_graph_Linked (graph_Linked masks a b), O_graph_Linked (graph_Linked masks a b))
  | _ => none

theorem ok_graph_Linked : FnOK 30 F_graph_Linked := by
  intro args ob rs os h hob
  unfold F_graph_Linked at h
  split at h
  · simp only [Option.bind_eq_some_iff, Option.some.injEq, Prod.mk.injEq] at h
    obtain ⟨masks, e0, a, e1, b, e2, rfl, rfl, rfl⟩ := h
    obtain rfl := dL_eq e0
    obtain rfl := dI_eq e1
    obtain rfl := dI_eq e2
    exact ⟨fn_contractF (M := M_graph_Linked) rfl (tbl_ok (l1 := [(50, F_conf_int)]) (l2 := []) (l3 := [(64, L_linked1)]) (l4 := []) (l5 := []) ⟨ok_conf_int, trivial⟩ trivial ⟨okL_linked1, trivial⟩ trivial trivial) Try.func30 (by kernel_rfl) N_graph_Linked 0 [.d] (fun hwf => (graph_Linked_spec masks a b (wfArg hwf (a := .d (.v (.dat (U := Un) Ty.int masks))) (List.mem_of_getElem? (i := 0) rfl)) (wfArg hwf (a := .d (.v (.s (.int .i64 a)))) (List.mem_of_getElem? (i := 1) rfl)) (wfArg hwf (a := .d (.v (.s (.int .i64 b)))) (List.mem_of_getElem? (i := 2) rfl)))), hasBody_of Try.func30 (by kernel_rfl) (by kernel_rfl)⟩
  · simp at h


/-! ### graph.Splits -/
def M_graph_Splits : Mc Un := mach (tbl [(60, F_graph_count)]) (tbl []) (tbl []) (tbl []) (tbl [])
def A_graph_Splits (r : (List (Int × Int))) : List (A Un) := [.c (.sl (U := Un) Ty.pair r false)]
def O_graph_Splits (_r : (List (Int × Int))) : List (Ob Un) := []
def R_graph_Splits (r : (List (Int × Int))) : RF Un := (A_graph_Splits r, O_graph_Splits r)
def N_graph_Splits : Nat → NS := fun l => (look l [(8, { ts := bl 42 240, bs := bl 42 0, nm := [(.sl 6, 168)] })]).getD ⟨[], [], [], [], []⟩
def graph_Splits_s8 (set : Int) (v0 : Int) (v1 : List (Int × Int)) : S Un := (st 42 42 169 0 [(4, ai (IntKind.i64.wrap (↑(BitVec.ofInt IntKind.i64.bits set &&& BitVec.ofInt IntKind.i64.bits (IntKind.i64.wrap ((0 : Int) - set))).toNat : Int))), (5, ai (IntKind.i64.wrap (↑(BitVec.ofInt IntKind.i64.bits set &&& ~~~BitVec.ofInt IntKind.i64.bits (IntKind.i64.wrap (↑(BitVec.ofInt IntKind.i64.bits set &&& BitVec.ofInt IntKind.i64.bits (IntKind.i64.wrap ((0 : Int) - set))).toNat : Int))).toNat : Int))), (6, ao 168), (7, ai v0)] [] [(168, some ⟨(0 : Nat), Ty.pair, v1, some (0 : Nat), true⟩)])
def graph_Splits_B8 : Code := sub (bodyOf Try.f26) [1, 1, 1, 1, 1, 0, 1, 2, 2]
def graph_Splits_L8 : S Un → Option (EX Un) := loopF (N_graph_Splits 8) (fun s Q => awf M_graph_Splits N_graph_Splits graph_Splits_B8 s Q)
def graph_Splits_C8 : Exit → S Un → Option (RF Un) := ctxF M_graph_Splits N_graph_Splits (bodyOf Try.f26) [1, 1, 1, 1, 1, 0, 1, 2] (retF M_graph_Splits Try.f26.results.toList [.d])
def graph_Splits_fn (set : Int) : Option (RF Un) := awf M_graph_Splits N_graph_Splits (bodyOf Try.f26) (entry Try.f26.ntmps 1 [.d (.v (.s (.int .i64 set)))]) (retF M_graph_Splits Try.f26.results.toList [.d])
theorem graph_Splits_in (set : Int) : graph_Splits_fn set =
 cndO (decide (graph_count set < 2))
  (some (R_graph_Splits ([])))
  (cndO (decide (graph_count set > 8))
   (some (R_graph_Splits ([])))
   ((graph_Splits_L8 (graph_Splits_s8 set (0 : Int) ([]))).bind (thenX graph_Splits_C8))) := by kernel_rfl
theorem graph_Splits_l8 (set : Int) (v0 : Int) (v1 : List (Int × Int)) : graph_Splits_L8 (graph_Splits_s8 set v0 v1) =
 cndO (v0 != IntKind.i64.wrap (↑(BitVec.ofInt IntKind.i64.bits set &&& ~~~BitVec.ofInt IntKind.i64.bits (IntKind.i64.wrap (↑(BitVec.ofInt IntKind.i64.bits set &&& BitVec.ofInt IntKind.i64.bits (IntKind.i64.wrap ((0 : Int) - set))).toNat : Int))).toNat : Int))
  (obO ((v1.length + [(IntKind.i64.wrap (↑(BitVec.ofInt IntKind.i64.bits (IntKind.i64.wrap (↑(BitVec.ofInt IntKind.i64.bits set &&& BitVec.ofInt IntKind.i64.bits (IntKind.i64.wrap ((0 : Int) - set))).toNat : Int)) ||| BitVec.ofInt IntKind.i64.bits v0).toNat : Int), IntKind.i64.wrap (↑(BitVec.ofInt IntKind.i64.bits (IntKind.i64.wrap (↑(BitVec.ofInt IntKind.i64.bits set &&& ~~~BitVec.ofInt IntKind.i64.bits (IntKind.i64.wrap (↑(BitVec.ofInt IntKind.i64.bits set &&& BitVec.ofInt IntKind.i64.bits (IntKind.i64.wrap ((0 : Int) - set))).toNat : Int))).toNat : Int)) &&& ~~~BitVec.ofInt IntKind.i64.bits v0).toNat : Int))].length) * (16 : Nat) ≤ roomB)
   (graph_Splits_L8 (graph_Splits_s8 set (IntKind.i64.wrap (↑(BitVec.ofInt IntKind.i64.bits (IntKind.i64.wrap (v0 - IntKind.i64.wrap (↑(BitVec.ofInt IntKind.i64.bits set &&& ~~~BitVec.ofInt IntKind.i64.bits (IntKind.i64.wrap (↑(BitVec.ofInt IntKind.i64.bits set &&& BitVec.ofInt IntKind.i64.bits (IntKind.i64.wrap ((0 : Int) - set))).toNat : Int))).toNat : Int))) &&& BitVec.ofInt IntKind.i64.bits (IntKind.i64.wrap (↑(BitVec.ofInt IntKind.i64.bits set &&& ~~~BitVec.ofInt IntKind.i64.bits (IntKind.i64.wrap (↑(BitVec.ofInt IntKind.i64.bits set &&& BitVec.ofInt IntKind.i64.bits (IntKind.i64.wrap ((0 : Int) - set))).toNat : Int))).toNat : Int))).toNat : Int)) (v1 ++ [(IntKind.i64.wrap (↑(BitVec.ofInt IntKind.i64.bits (IntKind.i64.wrap (↑(BitVec.ofInt IntKind.i64.bits set &&& BitVec.ofInt IntKind.i64.bits (IntKind.i64.wrap ((0 : Int) - set))).toNat : Int)) ||| BitVec.ofInt IntKind.i64.bits v0).toNat : Int), IntKind.i64.wrap (↑(BitVec.ofInt IntKind.i64.bits (IntKind.i64.wrap (↑(BitVec.ofInt IntKind.i64.bits set &&& ~~~BitVec.ofInt IntKind.i64.bits (IntKind.i64.wrap (↑(BitVec.ofInt IntKind.i64.bits set &&& BitVec.ofInt IntKind.i64.bits (IntKind.i64.wrap ((0 : Int) - set))).toNat : Int))).toNat : Int)) &&& ~~~BitVec.ofInt IntKind.i64.bits v0).toNat : Int))]))))
  (some (.exit 0, (graph_Splits_s8 set v0 v1))) := (loopF_eq (N_graph_Splits 8) graph_Splits_B8 _).trans (by kernel_rfl)
theorem graph_Splits_a8_x0 (set : Int) (v0 : Int) (v1 : List (Int × Int)) : graph_Splits_C8 (.exit 0) (graph_Splits_s8 set v0 v1) =
 some (R_graph_Splits (v1)) := by kernel_rfl

def graph_Splits (set : Int) : List (Int × Int) := splitsA set
theorem set_low {s : Nat} (h : s < 2 ^ 63) (h0 : 0 < s) : IntKind.i64.wrap ((BitVec.ofInt IntKind.i64.bits (s : Int) &&& BitVec.ofInt IntKind.i64.bits (IntKind.i64.wrap ((0 : Int) - (s : Int)))).toNat : Int) = ((lowN s : Nat) : Int) :=
  k_and h (by rw [wrap_id (by omega)]; omega)
theorem set_rest {s : Nat} (h : s < 2 ^ 63) (h0 : 0 < s) : IntKind.i64.wrap ((BitVec.ofInt IntKind.i64.bits (s : Int) &&& ~~~BitVec.ofInt IntKind.i64.bits ((lowN s : Nat) : Int)).toNat : Int) = ((restN s : Nat) : Int) := by
  have h1 := low_rest h h0
  rw [k_andnNat h (by omega), and_sub 64 s (lowN s) (by omega) (low_sub s)]
  omega
theorem graph_Splits_loop {s : Nat} (h : s < 2 ^ 63) (h0 : 0 < s) (hp : popW 64 s ≤ 8) : ∀ (j k : Nat) (v1 : List (Int × Int)), k + j = 2 ^ (popW 64 s - 1) - 1 → v1.length = k →
    graph_Splits_L8 (graph_Splits_s8 (s : Int) ((depW 64 (restN s) k : Nat) : Int) v1) = some (.exit 0, graph_Splits_s8 (s : Int) ((restN s : Nat) : Int) (v1 ++ (List.range' k j).map (splitN s))) := by
  have hK : 2 ^ (popW 64 s - 1) ≤ 2 ^ 7 := Nat.pow_le_pow_right (by decide) (by omega)
  have hr := rest_lt h0
  have hlr := low_rest h h0
  intro j
  induction j with
  | zero =>
    intro k v1 hk _
    have e := dep_all64 h h0
    rw [← hk, Nat.add_zero] at e
    rw [graph_Splits_l8, e]
    simp only [set_low h h0, set_rest h h0]
    rw [cndO_eq, if_neg (by simp)]
    simp
  | succ j ih =>
    intro k v1 hk hl
    have hd := dep_lt_rest (k := k) h h0 (by omega)
    have e1 : ((IntKind.i64.wrap (((depW 64 (restN s) k : Nat) : Int) - ((restN s : Nat) : Int))) % 18446744073709551616).toNat = (depW 64 (restN s) k + (2 ^ 64 - 1 - restN s) + 1) % 2 ^ 64 := by
      rw [wrap_id (by omega)]; omega
    have e2 := dep_next 64 (restN s) k (by omega)
    rw [graph_Splits_l8]
    simp only [set_low h h0, set_rest h h0]
    rw [k_orNat (by omega) (by omega), low_or h h0, k_andnNat (by omega) (by omega), rest_andn h h0, k_and' (by omega) e1, e2, cndO_eq, if_pos (by rw [bne_iff_ne]; omega), obO_pos (by unfold roomB; rw [List.length_singleton]; omega), ih (k + 1) _ (by omega) (by rw [List.length_append, List.length_singleton, hl])]
    rw [List.range'_succ, List.map_cons, List.append_assoc]
    rfl
theorem graph_Splits_spec (set : Int) (hw : WI set) : graph_Splits_fn set = some (R_graph_Splits (graph_Splits set)) := by
  rw [graph_Splits_in]
  unfold graph_Splits splitsA graph_count
  simp only [cndO_eq, decide_eq_true_eq]
  by_cases h0 : set ≤ 0
  · rw [if_pos h0, if_pos (by omega), if_pos (.inl h0)]
  · unfold WI at hw
    obtain ⟨s, rfl⟩ := Int.eq_ofNat_of_zero_le (a := set) (by omega)
    simp only [if_neg h0, Int.toNat_natCast]
    by_cases h1 : popW 64 s < 2
    · rw [if_pos (by omega), if_pos (.inr (.inl h1))]
    · by_cases h2 : popW 64 s > 8
      · rw [if_neg (by omega), if_pos (by omega), if_pos (.inr (.inr h2))]
      · have lp := graph_Splits_loop (s := s) (by omega) (by omega) (by omega) (2 ^ (popW 64 s - 1) - 1) 0 [] (by omega) rfl
        rw [depW_zero] at lp
        rw [if_neg (by omega), if_neg (by omega)]
        refine (loop_end lp).trans ?_
        rw [graph_Splits_a8_x0, if_neg (by omega), List.range_eq_range', List.nil_append]

def F_graph_Splits : FnC Un := fun args => match args with
  | [x0] => (dI .i64 x0).bind fun set => some ([], A_graph_Splits (graph_Splits set), O_graph_Splits (graph_Splits set))
  | _ => none

theorem ok_graph_Splits : FnOK 26 F_graph_Splits := by
  intro args ob rs os h hob
  unfold F_graph_Splits at h
  split at h
  · simp only [Option.bind_eq_some_iff, Option.some.injEq, Prod.mk.injEq] at h
    obtain ⟨set, e0, rfl, rfl, rfl⟩ := h
    obtain rfl := dI_eq e0
    exact ⟨fn_contractF (M := M_graph_Splits) rfl (tbl_ok (l1 := [(60, F_graph_count)]) (l2 := []) (l3 := []) (l4 := []) (l5 := []) ⟨ok_graph_count, trivial⟩ trivial trivial trivial trivial) Try.func26 (by kernel_rfl) N_graph_Splits 1 [.d] (fun hwf => (graph_Splits_spec set (wfArg hwf (a := .d (.v (.s (.int .i64 set)))) (List.mem_of_getElem? (i := 0) rfl)))), hasBody_of Try.func26 (by kernel_rfl) (by kernel_rfl)⟩
  · simp at h


end
end Go.Proofs.Ytaepcbdcjbfgjaa.B
