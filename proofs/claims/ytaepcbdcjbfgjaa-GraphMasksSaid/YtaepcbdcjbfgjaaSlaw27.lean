/- Functions: law27. (Printed by wip/tools/mkfn.py out of wip/src/law27.src.) -/
import Derived.Test.YtaepcbdcjbfgjaaBAwf
import Derived.Test.YtaepcbdcjbfgjaaSspec
import Derived.Test.YtaepcbdcjbfgjaaSterms
import Derived.Test.YtaepcbdcjbfgjaaStermsz
import Derived.Test.YtaepcbdcjbfgjaaSconjspec
import Derived.Test.YtaepcbdcjbfgjaaSsorted
import Derived.Test.YtaepcbdcjbfgjaaSbitsub
import Derived.Test.YtaepcbdcjbfgjaaSbits2
import Derived.Test.YtaepcbdcjbfgjaaSconjU
import Derived.Test.YtaepcbdcjbfgjaaSconj2
import Derived.Test.YtaepcbdcjbfgjaaSconj3
import Derived.Test.YtaepcbdcjbfgjaaSconj4
import Derived.Test.YtaepcbdcjbfgjaaSsame
import Derived.Test.YtaepcbdcjbfgjaaSsame2
import Derived.Test.YtaepcbdcjbfgjaaSsame3
import Derived.Test.YtaepcbdcjbfgjaaSsame4
import Derived.Test.YtaepcbdcjbfgjaaSsame5
import Derived.Test.YtaepcbdcjbfgjaaSref03
import Derived.Test.YtaepcbdcjbfgjaaSref15
import Derived.Test.YtaepcbdcjbfgjaaSref15b
import Derived.Test.YtaepcbdcjbfgjaaSref21
import Derived.Test.YtaepcbdcjbfgjaaSref21i
import Derived.Test.YtaepcbdcjbfgjaaSlarge
import Derived.Test.YtaepcbdcjbfgjaaSlargesz
import Derived.Test.YtaepcbdcjbfgjaaSgraph1
import Derived.Test.YtaepcbdcjbfgjaaSgraph2
import Derived.Test.YtaepcbdcjbfgjaaSgraph3
import Derived.Test.YtaepcbdcjbfgjaaSref27
namespace Go.Proofs.Ytaepcbdcjbfgjaa.B
open Go Go.RowKit
set_option maxRecDepth 100000
noncomputable section
attribute [local irreducible] awp ctxK itersK iterK retQ retGQ awf ctxF loopF

/-! ### tabellionlaw27.awake -/
def M_l27_awake : Mc Un := mach (tbl [(59, F_graph_Leaves), (26, F_graph_Splits), (11, F_r21_List), (28, F_graph_Mask), (30, F_graph_Linked)]) (tbl []) (tbl []) (tbl []) (tbl [])
def A_l27_awake (r : Bool) : List (A Un) := [.c (.s (.bool r))]
def O_l27_awake (_r : Bool) : List (Ob Un) := []
def R_l27_awake (r : Bool) : RF Un := (A_l27_awake r, O_l27_awake r)
def N_l27_awake : Nat → NS := fun l => (look l []).getD ⟨[], [], [], [], []⟩
def l27_awake_fn : Option (RF Un) := awf M_l27_awake N_l27_awake (bodyOf Try.f25) (entry Try.f25.ntmps 0 []) (retF M_l27_awake Try.f25.results.toList [.d])
theorem l27_awake_in : l27_awake_fn =
 obO ((0 + ([{ table := (ByteArray.mk #[]), name := (ByteArray.mk #[97]), type := (2 : Int) }, { table := (ByteArray.mk #[]), name := (ByteArray.mk #[98]), type := (2 : Int) }] : List Col).length) * (40 : Nat) ≤ roomB)
  (obO (((([{ table := (ByteArray.mk #[]), name := (ByteArray.mk #[97]), type := (2 : Int) }, { table := (ByteArray.mk #[]), name := (ByteArray.mk #[98]), type := (2 : Int) }] : List Col)).length + ([{ table := (ByteArray.mk #[]), name := (ByteArray.mk #[99]), type := (2 : Int) }] : List Col).length) * (40 : Nat) ≤ roomB)
   (obO (exOK (Rel.mk (5 : Int) (ByteArray.mk #[]) [{ table := (ByteArray.mk #[]), name := (ByteArray.mk #[97]), type := (2 : Int) }, { table := (ByteArray.mk #[]), name := (ByteArray.mk #[98]), type := (2 : Int) }, { table := (ByteArray.mk #[]), name := (ByteArray.mk #[99]), type := (2 : Int) }] [(Rel.mk (1 : Int) (ByteArray.mk #[116]) [{ table := (ByteArray.mk #[]), name := (ByteArray.mk #[97]), type := (2 : Int) }, { table := (ByteArray.mk #[]), name := (ByteArray.mk #[98]), type := (2 : Int) }] [] [] [] [] (0 : Int) (0 : Int) false []), (Rel.mk (1 : Int) (ByteArray.mk #[117]) [{ table := (ByteArray.mk #[]), name := (ByteArray.mk #[99]), type := (2 : Int) }] [] [] [] [] (0 : Int) (0 : Int) false [])] [(Term.mk (11 : Int) zeroVal (0 : Int) (0 : Int) (ByteArray.mk #[]) [(Term.mk (2 : Int) zeroVal (0 : Int) (0 : Int) (ByteArray.mk #[]) [] [] (2 : Int)), (Term.mk (2 : Int) zeroVal (0 : Int) (2 : Int) (ByteArray.mk #[]) [] [] (2 : Int))] [] (1 : Int))] [] [] (0 : Int) (0 : Int) false []))
    (cndO ((↑(graph_Leaves (Rel.mk (5 : Int) (ByteArray.mk #[]) [{ table := (ByteArray.mk #[]), name := (ByteArray.mk #[97]), type := (2 : Int) }, { table := (ByteArray.mk #[]), name := (ByteArray.mk #[98]), type := (2 : Int) }, { table := (ByteArray.mk #[]), name := (ByteArray.mk #[99]), type := (2 : Int) }] [(Rel.mk (1 : Int) (ByteArray.mk #[116]) [{ table := (ByteArray.mk #[]), name := (ByteArray.mk #[97]), type := (2 : Int) }, { table := (ByteArray.mk #[]), name := (ByteArray.mk #[98]), type := (2 : Int) }] [] [] [] [] (0 : Int) (0 : Int) false []), (Rel.mk (1 : Int) (ByteArray.mk #[117]) [{ table := (ByteArray.mk #[]), name := (ByteArray.mk #[99]), type := (2 : Int) }] [] [] [] [] (0 : Int) (0 : Int) false [])] [(Term.mk (11 : Int) zeroVal (0 : Int) (0 : Int) (ByteArray.mk #[]) [(Term.mk (2 : Int) zeroVal (0 : Int) (0 : Int) (ByteArray.mk #[]) [] [] (2 : Int)), (Term.mk (2 : Int) zeroVal (0 : Int) (2 : Int) (ByteArray.mk #[]) [] [] (2 : Int))] [] (1 : Int))] [] [] (0 : Int) (0 : Int) false [])).fst.length : Int) == (2 : Int))
     (obO ((0 : Int) ≤ (1 : Int) ∧ (1 : Int) < (↑(graph_Leaves (Rel.mk (5 : Int) (ByteArray.mk #[]) [{ table := (ByteArray.mk #[]), name := (ByteArray.mk #[97]), type := (2 : Int) }, { table := (ByteArray.mk #[]), name := (ByteArray.mk #[98]), type := (2 : Int) }, { table := (ByteArray.mk #[]), name := (ByteArray.mk #[99]), type := (2 : Int) }] [(Rel.mk (1 : Int) (ByteArray.mk #[116]) [{ table := (ByteArray.mk #[]), name := (ByteArray.mk #[97]), type := (2 : Int) }, { table := (ByteArray.mk #[]), name := (ByteArray.mk #[98]), type := (2 : Int) }] [] [] [] [] (0 : Int) (0 : Int) false []), (Rel.mk (1 : Int) (ByteArray.mk #[117]) [{ table := (ByteArray.mk #[]), name := (ByteArray.mk #[99]), type := (2 : Int) }] [] [] [] [] (0 : Int) (0 : Int) false [])] [(Term.mk (11 : Int) zeroVal (0 : Int) (0 : Int) (ByteArray.mk #[]) [(Term.mk (2 : Int) zeroVal (0 : Int) (0 : Int) (ByteArray.mk #[]) [] [] (2 : Int)), (Term.mk (2 : Int) zeroVal (0 : Int) (2 : Int) (ByteArray.mk #[]) [] [] (2 : Int))] [] (1 : Int))] [] [] (0 : Int) (0 : Int) false [])).fst.length : Int))
      (cndO ((Rel.table ((graph_Leaves (Rel.mk (5 : Int) (ByteArray.mk #[]) [{ table := (ByteArray.mk #[]), name := (ByteArray.mk #[97]), type := (2 : Int) }, { table := (ByteArray.mk #[]), name := (ByteArray.mk #[98]), type := (2 : Int) }, { table := (ByteArray.mk #[]), name := (ByteArray.mk #[99]), type := (2 : Int) }] [(Rel.mk (1 : Int) (ByteArray.mk #[116]) [{ table := (ByteArray.mk #[]), name := (ByteArray.mk #[97]), type := (2 : Int) }, { table := (ByteArray.mk #[]), name := (ByteArray.mk #[98]), type := (2 : Int) }] [] [] [] [] (0 : Int) (0 : Int) false []), (Rel.mk (1 : Int) (ByteArray.mk #[117]) [{ table := (ByteArray.mk #[]), name := (ByteArray.mk #[99]), type := (2 : Int) }] [] [] [] [] (0 : Int) (0 : Int) false [])] [(Term.mk (11 : Int) zeroVal (0 : Int) (0 : Int) (ByteArray.mk #[]) [(Term.mk (2 : Int) zeroVal (0 : Int) (0 : Int) (ByteArray.mk #[]) [] [] (2 : Int)), (Term.mk (2 : Int) zeroVal (0 : Int) (2 : Int) (ByteArray.mk #[]) [] [] (2 : Int))] [] (1 : Int))] [] [] (0 : Int) (0 : Int) false [])).fst.getD 1 zeroRel)).toList == (ByteArray.mk #[117]).toList)
       (cndO (r21_List (graph_Leaves (Rel.mk (5 : Int) (ByteArray.mk #[]) [{ table := (ByteArray.mk #[]), name := (ByteArray.mk #[97]), type := (2 : Int) }, { table := (ByteArray.mk #[]), name := (ByteArray.mk #[98]), type := (2 : Int) }, { table := (ByteArray.mk #[]), name := (ByteArray.mk #[99]), type := (2 : Int) }] [(Rel.mk (1 : Int) (ByteArray.mk #[116]) [{ table := (ByteArray.mk #[]), name := (ByteArray.mk #[97]), type := (2 : Int) }, { table := (ByteArray.mk #[]), name := (ByteArray.mk #[98]), type := (2 : Int) }] [] [] [] [] (0 : Int) (0 : Int) false []), (Rel.mk (1 : Int) (ByteArray.mk #[117]) [{ table := (ByteArray.mk #[]), name := (ByteArray.mk #[99]), type := (2 : Int) }] [] [] [] [] (0 : Int) (0 : Int) false [])] [(Term.mk (11 : Int) zeroVal (0 : Int) (0 : Int) (ByteArray.mk #[]) [(Term.mk (2 : Int) zeroVal (0 : Int) (0 : Int) (ByteArray.mk #[]) [] [] (2 : Int)), (Term.mk (2 : Int) zeroVal (0 : Int) (2 : Int) (ByteArray.mk #[]) [] [] (2 : Int))] [] (1 : Int))] [] [] (0 : Int) (0 : Int) false [])).snd [(Term.mk (11 : Int) zeroVal (0 : Int) (0 : Int) (ByteArray.mk #[]) [(Term.mk (2 : Int) zeroVal (0 : Int) (0 : Int) (ByteArray.mk #[]) [] [] (2 : Int)), (Term.mk (2 : Int) zeroVal (0 : Int) (2 : Int) (ByteArray.mk #[]) [] [] (2 : Int))] [] (1 : Int))])
        (obO ((Term.mk (11 : Int) zeroVal (0 : Int) (0 : Int) (ByteArray.mk #[]) [(Term.mk (2 : Int) zeroVal (0 : Int) (0 : Int) (ByteArray.mk #[]) [] [] (2 : Int)), (Term.mk (2 : Int) zeroVal (0 : Int) (2 : Int) (ByteArray.mk #[]) [] [] (2 : Int))] [] (1 : Int)).sz ≤ (1000000 : Nat))
         (cndO (graph_Mask (Term.mk (11 : Int) zeroVal (0 : Int) (0 : Int) (ByteArray.mk #[]) [(Term.mk (2 : Int) zeroVal (0 : Int) (0 : Int) (ByteArray.mk #[]) [] [] (2 : Int)), (Term.mk (2 : Int) zeroVal (0 : Int) (2 : Int) (ByteArray.mk #[]) [] [] (2 : Int))] [] (1 : Int)) [(2 : Int), (1 : Int)] == 3)
          (cndO (graph_Linked [(3 : Int)] (1 : Int) (2 : Int))
           (cndO (!graph_Linked [(3 : Int)] (1 : Int) (4 : Int))
            (cndO ((↑(graph_Splits (7 : Int)).length : Int) == (3 : Int))
             (obO ((0 : Int) ≤ (0 : Int) ∧ (0 : Int) < (↑(graph_Splits (7 : Int)).length : Int))
              (cndO (andB [EK.int IntKind.i64] (((graph_Splits (7 : Int)).getD 0 ((0 : Int), (0 : Int))).fst == 1) (andB [] (((graph_Splits (7 : Int)).getD 0 ((0 : Int), (0 : Int))).snd == 6) true))
               (obO ((0 : Int) ≤ (2 : Int) ∧ (2 : Int) < (↑(graph_Splits (7 : Int)).length : Int))
                (some (R_l27_awake (andB [EK.int IntKind.i64] (((graph_Splits (7 : Int)).getD 2 ((0 : Int), (0 : Int))).fst == 5) (andB [] (((graph_Splits (7 : Int)).getD 2 ((0 : Int), (0 : Int))).snd == 2) true)))))
               (some (R_l27_awake (false)))))
             (some (R_l27_awake (false))))
            (some (R_l27_awake (false))))
           (some (R_l27_awake (false))))
          (some (R_l27_awake (false)))))
        (some (R_l27_awake (false))))
       (some (R_l27_awake (false)))))
     (some (R_l27_awake (false)))))) := by kernel_rfl

def l27_awake : Bool := true
theorem l27_awake_spec : l27_awake_fn = some (R_l27_awake l27_awake) := by
  rw [l27_awake_in]
  repeat (first
    | refine (obO_pos (by first | exact Nat.le_of_ble_eq_true (by kernel_rfl) | exact .inr (.inr (by kernel_rfl)) | exact of_decide_eq_true (by kernel_rfl))).trans ?_
    | refine (cndO_tt (by first | exact deq_iff.2 (by kernel_rfl) | kernel_rfl)).trans ?_)
  kernel_rfl

def F_l27_awake : FnC Un := fun args => match args with
  | [] => some ([], A_l27_awake (l27_awake), O_l27_awake (l27_awake))
  | _ => none

theorem ok_l27_awake : FnOK 25 F_l27_awake := by
  intro args ob rs os h hob
  unfold F_l27_awake at h
  split at h
  · simp only [Option.bind_eq_some_iff, Option.some.injEq, Prod.mk.injEq] at h
    obtain ⟨rfl, rfl, rfl⟩ := h
    exact ⟨fn_contractF (M := M_l27_awake) rfl (tbl_ok (l1 := [(59, F_graph_Leaves), (26, F_graph_Splits), (11, F_r21_List), (28, F_graph_Mask), (30, F_graph_Linked)]) (l2 := []) (l3 := []) (l4 := []) (l5 := []) ⟨ok_graph_Leaves, ok_graph_Splits, ok_r21_List, ok_graph_Mask, ok_graph_Linked, trivial⟩ trivial trivial trivial trivial) Try.func25 (by kernel_rfl) N_l27_awake 0 [.d] (fun hwf => (l27_awake_spec)), hasBody_of Try.func25 (by kernel_rfl) (by kernel_rfl)⟩
  · simp at h

theorem gS_eq (set : Int) : graph_Splits set = splitsA set := by unfold graph_Splits; rfl
theorem rS_eq (set : Int) : r27_Splits set = splitsA set := by unfold r27_Splits; rfl
theorem splitsA_len (set : Int) : (splitsA set).length ≤ 128 := by
  unfold splitsA
  split
  · simp
  · rename_i h
    have : 2 ^ (popW 64 set.toNat - 1) ≤ 2 ^ 7 := Nat.pow_le_pow_right (by decide) (by omega)
    rw [List.length_map, List.length_range]; omega


/-! ### tabellionlaw27.GraphSplits -/
def M_l27_GraphSplits : Mc Un := mach (tbl [(26, F_graph_Splits), (25, F_l27_awake)]) (tbl []) (tbl []) (tbl []) (tbl [])
def A_l27_GraphSplits (r : Bool) : List (A Un) := [.c (.s (.bool r))]
def O_l27_GraphSplits (_r : Bool) : List (Ob Un) := []
def R_l27_GraphSplits (r : Bool) : RF Un := (A_l27_GraphSplits r, O_l27_GraphSplits r)
def N_l27_GraphSplits : Nat → NS := fun l => (look l [(4, { ts := bl 105 57, bs := bl 105 0, nm := [] }), (10, { ts := bl 105 93, bs := bl 105 0, nm := [] })]).getD ⟨[], [], [], [], []⟩
def l27_GraphSplits_s4 (set : Int) (v0 : Int) (v1 : Int) : S Un := (st 105 105 420 0 [(0, ai set), (3, al .pair (graph_Splits set)), (4, ai v0), (5, ai v1)] [] [])
def l27_GraphSplits_s10 (set : Int) (v0 : Int) (v2 : Int) : S Un := (st 105 105 420 0 [(0, ai set), (3, al .pair (graph_Splits set)), (4, ai v0), (6, ai v2)] [] [])
def l27_GraphSplits_e10_ret (set : Int) (v0 : Int) (v2 : Int) : S Un := (st 105 105 420 0 [(0, ai set), (2, ab false), (3, al .pair (graph_Splits set)), (4, ai v0), (6, ai v2)] [] [])
def l27_GraphSplits_B4 : Code := sub (bodyOf Try.f6) [1, 1, 1, 0, 1, 2, 2]
def l27_GraphSplits_L4 : S Un → Option (EX Un) := loopF (N_l27_GraphSplits 4) (fun s Q => awf M_l27_GraphSplits N_l27_GraphSplits l27_GraphSplits_B4 s Q)
def l27_GraphSplits_B10 : Code := sub (bodyOf Try.f6) [1, 1, 1, 1, 1, 0, 1, 2, 2]
def l27_GraphSplits_L10 : S Un → Option (EX Un) := loopF (N_l27_GraphSplits 10) (fun s Q => awf M_l27_GraphSplits N_l27_GraphSplits l27_GraphSplits_B10 s Q)
def l27_GraphSplits_C4 : Exit → S Un → Option (RF Un) := ctxF M_l27_GraphSplits N_l27_GraphSplits (bodyOf Try.f6) [1, 1, 1, 0, 1, 2] (retF M_l27_GraphSplits Try.f6.results.toList [.d])
def l27_GraphSplits_C10 : Exit → S Un → Option (RF Un) := ctxF M_l27_GraphSplits N_l27_GraphSplits (bodyOf Try.f6) [1, 1, 1, 1, 1, 0, 1, 2] (retF M_l27_GraphSplits Try.f6.results.toList [.d])
def l27_GraphSplits_fn (set : Int) : Option (RF Un) := awf M_l27_GraphSplits N_l27_GraphSplits (bodyOf Try.f6) (entry Try.f6.ntmps 0 [.d (.v (.s (.int .i64 set)))]) (retF M_l27_GraphSplits Try.f6.results.toList [.d])
theorem l27_GraphSplits_in (set : Int) : l27_GraphSplits_fn set =
 (l27_GraphSplits_L4 (l27_GraphSplits_s4 set (0 : Int) (0 : Int))).bind (thenX l27_GraphSplits_C4) := by kernel_rfl
theorem l27_GraphSplits_l4 (set : Int) (v0 : Int) (v1 : Int) : l27_GraphSplits_L4 (l27_GraphSplits_s4 set v0 v1) =
 cndO (decide (v1 < 63))
  (cndO (decide (set > 0))
   (obO (¬v1 < 0)
    (l27_GraphSplits_L4 (l27_GraphSplits_s4 set (IntKind.i64.wrap (v0 + IntKind.i64.wrap (↑(BitVec.ofInt IntKind.i64.bits (set.fdiv ((2 : Int) ^ min v1.toNat IntKind.i64.bits)) &&& BitVec.ofInt IntKind.i64.bits (1 : Int)).toNat : Int))) (IntKind.i64.wrap (v1 + 1)))))
   (some (.exit 0, (l27_GraphSplits_s4 set v0 v1))))
  (some (.exit 0, (l27_GraphSplits_s4 set v0 v1))) := (loopF_eq (N_l27_GraphSplits 4) l27_GraphSplits_B4 _).trans (by kernel_rfl)
theorem l27_GraphSplits_a4_x0 (set : Int) (v0 : Int) (v1 : Int) : l27_GraphSplits_C4 (.exit 0) (l27_GraphSplits_s4 set v0 v1) =
 cndO (decide (set ≤ 0))
  (cndO (l27_awake)
   (some (R_l27_GraphSplits ((↑(graph_Splits set).length : Int) == (0 : Int))))
   (some (R_l27_GraphSplits (false))))
  (cndO (decide (v0 < 2))
   (cndO (l27_awake)
    (some (R_l27_GraphSplits ((↑(graph_Splits set).length : Int) == (0 : Int))))
    (some (R_l27_GraphSplits (false))))
   (cndO (decide (v0 > 8))
    (cndO (l27_awake)
     (some (R_l27_GraphSplits ((↑(graph_Splits set).length : Int) == (0 : Int))))
     (some (R_l27_GraphSplits (false))))
    ((l27_GraphSplits_L10 (l27_GraphSplits_s10 set v0 (0 : Int))).bind (thenX l27_GraphSplits_C10)))) := by kernel_rfl
theorem l27_GraphSplits_l10 (set : Int) (v0 : Int) (v2 : Int) : l27_GraphSplits_L10 (l27_GraphSplits_s10 set v0 v2) =
 cndO (decide (v2 < (↑(graph_Splits set).length : Int)))
  (obO (0 ≤ v2 ∧ v2 < (↑(graph_Splits set).length : Int))
   (obO (0 ≤ v2 ∧ v2 < (↑(graph_Splits set).length : Int))
    (cndO (IntKind.i64.wrap (↑(BitVec.ofInt IntKind.i64.bits ((graph_Splits set).getD v2.toNat ((0 : Int), (0 : Int))).fst ||| BitVec.ofInt IntKind.i64.bits ((graph_Splits set).getD v2.toNat ((0 : Int), (0 : Int))).snd).toNat : Int) != set)
     (some (.ret, (l27_GraphSplits_e10_ret set v0 v2)))
     (cndO (IntKind.i64.wrap (↑(BitVec.ofInt IntKind.i64.bits ((graph_Splits set).getD v2.toNat ((0 : Int), (0 : Int))).fst &&& BitVec.ofInt IntKind.i64.bits ((graph_Splits set).getD v2.toNat ((0 : Int), (0 : Int))).snd).toNat : Int) != (0 : Int))
      (some (.ret, (l27_GraphSplits_e10_ret set v0 v2)))
      (cndO (decide (((graph_Splits set).getD v2.toNat ((0 : Int), (0 : Int))).snd ≤ 0))
       (some (.ret, (l27_GraphSplits_e10_ret set v0 v2)))
       (cndO (IntKind.i64.wrap (↑(BitVec.ofInt IntKind.i64.bits ((graph_Splits set).getD v2.toNat ((0 : Int), (0 : Int))).fst &&& BitVec.ofInt IntKind.i64.bits (IntKind.i64.wrap (↑(BitVec.ofInt IntKind.i64.bits set &&& BitVec.ofInt IntKind.i64.bits (IntKind.i64.wrap ((0 : Int) - set))).toNat : Int))).toNat : Int) == (0 : Int))
        (some (.ret, (l27_GraphSplits_e10_ret set v0 v2)))
        (cndO (decide (v2 > 0))
         (obO (0 ≤ IntKind.i64.wrap (v2 - 1) ∧ IntKind.i64.wrap (v2 - 1) < (↑(graph_Splits set).length : Int))
          (cndO (decide (((graph_Splits set).getD (IntKind.i64.wrap (v2 - 1)).toNat ((0 : Int), (0 : Int))).fst ≥ ((graph_Splits set).getD v2.toNat ((0 : Int), (0 : Int))).fst))
           (some (.ret, (l27_GraphSplits_e10_ret set v0 v2)))
           (l27_GraphSplits_L10 (l27_GraphSplits_s10 set v0 (IntKind.i64.wrap (v2 + 1))))))
         (l27_GraphSplits_L10 (l27_GraphSplits_s10 set v0 (IntKind.i64.wrap (v2 + 1)))))))))))
  (some (.exit 2, (l27_GraphSplits_s10 set v0 v2))) := (loopF_eq (N_l27_GraphSplits 10) l27_GraphSplits_B10 _).trans (by kernel_rfl)
theorem l27_GraphSplits_a10_ret (set : Int) (v0 : Int) (v2 : Int) : l27_GraphSplits_C10 .ret (l27_GraphSplits_e10_ret set v0 v2) =
 some (R_l27_GraphSplits (false)) := by kernel_rfl
theorem l27_GraphSplits_a10_x2 (set : Int) (v0 : Int) (v2 : Int) : l27_GraphSplits_C10 (.exit 2) (l27_GraphSplits_s10 set v0 v2) =
 cndO (l27_awake)
  (obO (¬IntKind.i64.wrap (v0 - 1) < 0)
   (some (R_l27_GraphSplits ((↑(graph_Splits set).length : Int) == IntKind.i64.wrap (IntKind.i64.wrap ((1 : Int) * (2 : Int) ^ min (IntKind.i64.wrap (v0 - 1)).toNat IntKind.i64.bits) - 1)))))
  (some (R_l27_GraphSplits (false))) := by kernel_rfl

def l27_GraphSplits (_set : Int) : Bool := true
theorem set_bit {s i : Nat} (hs : s < 2 ^ 63) (hi : i < 63) : IntKind.i64.wrap ((BitVec.ofInt IntKind.i64.bits (Int.fdiv (s : Int) ((2 : Int) ^ min i IntKind.i64.bits)) &&& BitVec.ofInt IntKind.i64.bits (1 : Int)).toNat : Int) = ((if s.testBit (i - 0) then 1 else 0 : Nat) : Int) := by
  have e : min i IntKind.i64.bits = i := Nat.min_eq_left (by show i ≤ 64; omega)
  have e2 : (2 : Int) ^ i = ((2 ^ i : Nat) : Int) := by rw [Int.natCast_pow]; rfl
  have e3 : Int.fdiv (s : Int) ((2 : Int) ^ i) = ((s / 2 ^ i : Nat) : Int) := by
    rw [Int.fdiv_eq_ediv_of_nonneg _ (by rw [e2]; exact Int.natCast_nonneg _), e2]
    rfl
  have hd : s / 2 ^ i ≤ s := Nat.div_le_self _ _
  rw [e, e3, k_and (nb := 1) (by omega) (by decide), Nat.and_one_is_mod, Nat.sub_zero, div_bit]
  have := Nat.mod_two_eq_zero_or_one (s / 2 ^ i)
  rcases this with h | h
  · rw [h]; rfl
  · rw [h]; rfl
theorem splits_count {s : Nat} (hs : s < 2 ^ 63) (hs0 : 0 < s) : l27_GraphSplits_L4 (l27_GraphSplits_s4 (s : Int) (0 : Int) (0 : Int)) = some (.exit 0, l27_GraphSplits_s4 (s : Int) ((popW 64 s : Nat) : Int) (63 : Int)) := by
  obtain ⟨lp, _⟩ := loop_fold (e := .exit 0) (L := l27_GraphSplits_L4) (st := fun (n : Nat) i => l27_GraphSplits_s4 (s : Int) (n : Int) i) (l := List.range' 0 63) (d := 0) (g := fun n i => n + (if s.testBit (i - 0) then 1 else 0)) (fun i n => n ≤ i) (by rw [List.length_range']; omega)
    (fun n i x hi hx hI => by
      rw [List.length_range'] at hi
      rw [range_getD (by omega)] at hx
      subst hx
      have hn : n ≤ i := hI
      have hb : (if s.testBit (i - 0) then 1 else 0) ≤ 1 := by split <;> omega
      refine ⟨by show n + (if s.testBit (i - 0) then 1 else 0) ≤ i + 1; omega, ?_⟩
      rw [l27_GraphSplits_l4]
      simp only [cndO_eq, decide_eq_true_eq, Int.toNat_natCast]
      rw [if_pos (by omega), if_pos (by omega), obO_pos (by omega), set_bit hs (by omega)]
      have hw : IntKind.i64.wrap ((n : Int) + ((if s.testBit (i - 0) then 1 else 0 : Nat) : Int)) = ((n + (if s.testBit (i - 0) then 1 else 0) : Nat) : Int) := by
        generalize (if s.testBit (i - 0) then 1 else 0) = c at hb ⊢
        rw [wrap_id (by omega)]; omega
      rw [hw])
    (fun n _ => by
      rw [List.length_range', l27_GraphSplits_l4]
      rfl) 0 (Nat.le_refl 0)
  rw [pop_count, Nat.zero_add, ← pop_more 63 s hs] at lp
  exact lp
theorem splits_walk {s : Nat} (hs : s < 2 ^ 63) (hs0 : 0 < s) (h1 : 2 ≤ popW 64 s) (h2 : popW 64 s ≤ 8) (v0 : Int) : l27_GraphSplits_L10 (l27_GraphSplits_s10 (s : Int) v0 (0 : Int)) = some (.exit 2, l27_GraphSplits_s10 (s : Int) v0 (((splitsA (s : Int)).length : Nat) : Int)) := by
  have hK : 2 ^ (popW 64 s - 1) ≤ 2 ^ 7 := Nat.pow_le_pow_right (by decide) (by omega)
  have hS : splitsA (s : Int) = (List.range (2 ^ (popW 64 s - 1) - 1)).map (splitN s) := by
    unfold splitsA
    rw [Int.toNat_natCast, if_neg (by omega)]
  have hl : (splitsA (s : Int)).length = 2 ^ (popW 64 s - 1) - 1 := by rw [hS, List.length_map, List.length_range]
  have hg : ∀ k, k < 2 ^ (popW 64 s - 1) - 1 → (splitsA (s : Int)).getD k ((0 : Int), (0 : Int)) = splitN s k := by
    intro k hk
    rw [hS, List.getD_eq_getElem?_getD, List.getElem?_map, List.getElem?_range hk]
    rfl
  have hlr := low_rest hs hs0
  have hlp := low_pos hs hs0
  obtain ⟨lp, _⟩ := loop_fold (e := .exit 2) (L := l27_GraphSplits_L10) (st := fun (_ : Unit) i => l27_GraphSplits_s10 (s : Int) v0 i) (l := splitsA (s : Int)) (d := ((0 : Int), (0 : Int))) (g := fun _ _ => ()) (fun _ _ => True) (by omega)
    (fun _ k x hk hx _ => by
      refine ⟨trivial, ?_⟩
      have hk' : k < 2 ^ (popW 64 s - 1) - 1 := by omega
      have hx' : x = splitN s k := by rw [← hx]; exact hg k hk'
      have hd := dep_lt_rest hs hs0 hk'
      obtain ⟨p1, p2, p3⟩ := split_parts (k := k) hs hs0
      rw [l27_GraphSplits_l10]
      simp only [gS_eq, Int.toNat_natCast, hx, hx']
      simp only [cndO_eq, decide_eq_true_eq]
      unfold splitN
      simp only
      rw [k_orNat (by omega) (by omega), p1, k_andNat (by omega) (by omega), p2, set_low hs hs0, k_andNat (by omega) (by omega), p3]
      rw [if_pos (by omega), obO_pos (by omega), obO_pos (by omega), if_neg (by simp), if_neg (by simp), if_neg (by omega), if_neg (by rw [beq_iff_eq]; omega)]
      by_cases h0 : (k : Int) > 0
      · have hw : IntKind.i64.wrap ((k : Int) - 1) = ((k - 1 : Nat) : Int) := by rw [wrap_id (by omega)]; omega
        have hrp := rest_pop hs hs0
        have hre : popW 64 (restN s) = popW 64 s - 1 := by omega
        have hm := dep_mono 64 (restN s) (k - 1) k (by omega) (by rw [hre]; omega)
        rw [if_pos h0, hw, obO_pos (by omega), Int.toNat_natCast, hg (k - 1) (by omega)]
        unfold splitN
        simp only
        rw [if_neg (by omega)]
      · rw [if_neg h0])
    (fun _ _ => by
      rw [l27_GraphSplits_l10]
      simp only [gS_eq]
      simp only [cndO_eq, decide_eq_true_eq]
      rw [if_neg (by omega)]) () trivial
  exact lp
theorem l27_GraphSplits_spec (set : Int) (hw : WI set) : l27_GraphSplits_fn set = some (R_l27_GraphSplits (l27_GraphSplits set)) := by
  rw [l27_GraphSplits_in]
  unfold l27_GraphSplits
  unfold WI at hw
  by_cases h0 : set ≤ 0
  · have e : l27_GraphSplits_L4 (l27_GraphSplits_s4 set (0 : Int) (0 : Int)) = some (.exit 0, l27_GraphSplits_s4 set (0 : Int) (0 : Int)) := by
      rw [l27_GraphSplits_l4]
      simp only [cndO_eq, decide_eq_true_eq]
      rw [if_pos (by decide), if_neg (by omega)]
    have hS : splitsA set = [] := by unfold splitsA; rw [if_pos (.inl h0)]
    refine (loop_end e).trans ?_
    rw [l27_GraphSplits_a4_x0]
    simp only [gS_eq, hS, l27_awake, cndO_eq, decide_eq_true_eq]
    rw [if_pos h0]
    rfl
  · obtain ⟨s, rfl⟩ := Int.eq_ofNat_of_zero_le (a := set) (by omega)
    have hs : s < 2 ^ 63 := by omega
    have hs0 : 0 < s := by omega
    refine (loop_end (splits_count hs hs0)).trans ?_
    rw [l27_GraphSplits_a4_x0]
    simp only [l27_awake, cndO_eq, decide_eq_true_eq]
    rw [if_neg h0]
    by_cases h1 : popW 64 s < 2
    · have hS : splitsA (s : Int) = [] := by unfold splitsA; rw [Int.toNat_natCast, if_pos (.inr (.inl h1))]
      rw [if_pos (by omega)]
      simp only [gS_eq, hS]
      rfl
    · by_cases h2 : popW 64 s > 8
      · have hS : splitsA (s : Int) = [] := by unfold splitsA; rw [Int.toNat_natCast, if_pos (.inr (.inr h2))]
        rw [if_neg (by omega), if_pos (by omega)]
        simp only [gS_eq, hS]
        rfl
      · have hK : 2 ^ (popW 64 s - 1) ≤ 2 ^ 7 := Nat.pow_le_pow_right (by decide) (by omega)
        have hKp := Nat.two_pow_pos (popW 64 s - 1)
        have hl : (splitsA (s : Int)).length = 2 ^ (popW 64 s - 1) - 1 := by
          unfold splitsA
          rw [Int.toNat_natCast, if_neg (by omega), List.length_map, List.length_range]
        have hwn : IntKind.i64.wrap ((popW 64 s : Int) - 1) = ((popW 64 s - 1 : Nat) : Int) := by rw [wrap_id (by omega)]; omega
        rw [if_neg (by omega), if_neg (by omega)]
        refine (loop_end (splits_walk hs hs0 (by omega) (by omega) _)).trans ?_
        rw [l27_GraphSplits_a10_x2]
        simp only [gS_eq, l27_awake, hwn, hl, Int.toNat_natCast, cndO_eq, if_true]
        rw [obO_pos (by omega), k_shl (by omega)]
        generalize 2 ^ (popW 64 s - 1) = Q at hK hKp
        rw [wrap_id (by omega)]
        have hb : (((Q - 1 : Nat) : Int) == ((Q : Nat) : Int) - 1) = true := by rw [beq_iff_eq]; omega
        rw [hb]

def F_l27_GraphSplits : FnC Un := fun args => match args with
  | [x0] => (dI .i64 x0).bind fun set => some ([], A_l27_GraphSplits (l27_GraphSplits set), O_l27_GraphSplits (l27_GraphSplits set))
  | _ => none

theorem ok_l27_GraphSplits : FnOK 6 F_l27_GraphSplits := by
  intro args ob rs os h hob
  unfold F_l27_GraphSplits at h
  split at h
  · simp only [Option.bind_eq_some_iff, Option.some.injEq, Prod.mk.injEq] at h
    obtain ⟨set, e0, rfl, rfl, rfl⟩ := h
    obtain rfl := dI_eq e0
    exact ⟨fn_contractF (M := M_l27_GraphSplits) rfl (tbl_ok (l1 := [(26, F_graph_Splits), (25, F_l27_awake)]) (l2 := []) (l3 := []) (l4 := []) (l5 := []) ⟨ok_graph_Splits, ok_l27_awake, trivial⟩ trivial trivial trivial trivial) Try.func6 (by kernel_rfl) N_l27_GraphSplits 0 [.d] (fun hwf => (l27_GraphSplits_spec set (wfArg hwf (a := .d (.v (.s (.int .i64 set)))) (List.mem_of_getElem? (i := 0) rfl)))), hasBody_of Try.func6 (by kernel_rfl) (by kernel_rfl)⟩
  · simp at h


/-! ### tabellionlaw27.GraphSays -/
def M_l27_GraphSays : Mc Un := mach (tbl [(8, F_l21_Large), (25, F_l27_awake), (26, F_graph_Splits), (27, F_r27_Splits), (28, F_graph_Mask), (29, F_r27_Mask), (30, F_graph_Linked), (31, F_r27_Linked)]) (tbl []) (tbl []) (tbl []) (tbl [])
def A_l27_GraphSays (r : Bool) : List (A Un) := [.c (.s (.bool r))]
def O_l27_GraphSays (_r : Bool) : List (Ob Un) := []
def R_l27_GraphSays (r : Bool) : RF Un := (A_l27_GraphSays r, O_l27_GraphSays r)
def N_l27_GraphSays : Nat → NS := fun l => (look l [(10, { ts := bl 90 4046, bs := bl 90 8, nm := [] })]).getD ⟨[], [], [], [], []⟩
def l27_GraphSays_s10 (t : Term) (widths : List Int) (masks : List Int) (v0 : Int) (v1 : Int) (v2 : List (Int × Int)) (v3 : List (Int × Int)) (v4 : Int) : S Un := (st 90 90 360 0 [(1, al .int widths), (2, al .int masks), (3, ax 3), (6, ab false), (7, ai v0), (8, ai v1), (9, al .pair v2), (10, al .pair v3), (11, ai v4)] [(3, bg .term t)] [])
def l27_GraphSays_B10 : Code := sub (bodyOf Try.f5) [1, 1, 1, 1, 1, 1, 0, 1, 2, 2]
def l27_GraphSays_L10 : S Un → Option (EX Un) := loopF (N_l27_GraphSays 10) (fun s Q => awf M_l27_GraphSays N_l27_GraphSays l27_GraphSays_B10 s Q)
def l27_GraphSays_C10 : Exit → S Un → Option (RF Un) := ctxF M_l27_GraphSays N_l27_GraphSays (bodyOf Try.f5) [1, 1, 1, 1, 1, 1, 0, 1, 2] (retF M_l27_GraphSays Try.f5.results.toList [.d])
def l27_GraphSays_fn (t : Term) (widths : List Int) (masks : List Int) : Option (RF Un) := awf M_l27_GraphSays N_l27_GraphSays (bodyOf Try.f5) (entry Try.f5.ntmps 0 [.d (.agg (enc Ty.term t)), .d (.v (.dat (U := Un) Ty.int widths)), .d (.v (.dat (U := Un) Ty.int masks))]) (retF M_l27_GraphSays Try.f5.results.toList [.d])
theorem l27_GraphSays_in (t : Term) (widths : List Int) (masks : List Int) : l27_GraphSays_fn t widths masks =
 cndO (l21_Large (Term.ids t))
  (some (R_l27_GraphSays (l27_awake)))
  (cndO (decide ((↑widths.length : Int) > (100 : Int)))
   (some (R_l27_GraphSays (l27_awake)))
   (cndO (decide ((↑masks.length : Int) > (100 : Int)))
    (some (R_l27_GraphSays (l27_awake)))
    (cndO (decide ((↑masks.length : Int) > (1 : Int)))
     (obO ((0 : Int) ≤ (0 : Int) ∧ (0 : Int) < (↑masks.length : Int))
      (obO ((0 : Int) ≤ (1 : Int) ∧ (1 : Int) < (↑masks.length : Int))
       (cndO ((↑(graph_Splits (masks.getD 0 (0 : Int))).length : Int) != (↑(r27_Splits (masks.getD 0 (0 : Int))).length : Int))
        (some (R_l27_GraphSays (false)))
        ((l27_GraphSays_L10 (l27_GraphSays_s10 t widths masks (masks.getD 0 (0 : Int)) (masks.getD 1 (0 : Int)) (graph_Splits (masks.getD 0 (0 : Int))) (r27_Splits (masks.getD 0 (0 : Int))) (0 : Int))).bind (thenX l27_GraphSays_C10)))))
     (cndO ((↑(graph_Splits (0 : Int)).length : Int) != (↑(r27_Splits (0 : Int)).length : Int))
      (some (R_l27_GraphSays (false)))
      ((l27_GraphSays_L10 (l27_GraphSays_s10 t widths masks (0 : Int) (0 : Int) (graph_Splits (0 : Int)) (r27_Splits (0 : Int)) (0 : Int))).bind (thenX l27_GraphSays_C10)))))) := by kernel_rfl
theorem l27_GraphSays_l10 (t : Term) (widths : List Int) (masks : List Int) (v0 : Int) (v1 : Int) (v2 : List (Int × Int)) (v3 : List (Int × Int)) (v4 : Int) : l27_GraphSays_L10 (l27_GraphSays_s10 t widths masks v0 v1 v2 v3 v4) =
 cndO (decide (v4 < (↑v2.length : Int)))
  (obO (0 ≤ v4 ∧ v4 < (↑v2.length : Int))
   (obO (0 ≤ v4 ∧ v4 < (↑v3.length : Int))
    (cndO (!andB [EK.int IntKind.i64] ((v2.getD v4.toNat ((0 : Int), (0 : Int))).fst == (v3.getD v4.toNat ((0 : Int), (0 : Int))).fst) (andB [] ((v2.getD v4.toNat ((0 : Int), (0 : Int))).snd == (v3.getD v4.toNat ((0 : Int), (0 : Int))).snd) true))
     (some (.ret, (l27_GraphSays_s10 t widths masks v0 v1 v2 v3 v4)))
     (l27_GraphSays_L10 (l27_GraphSays_s10 t widths masks v0 v1 v2 v3 (IntKind.i64.wrap (v4 + 1)))))))
  (some (.exit 0, (l27_GraphSays_s10 t widths masks v0 v1 v2 v3 v4))) := (loopF_eq (N_l27_GraphSays 10) l27_GraphSays_B10 _).trans (by kernel_rfl)
theorem l27_GraphSays_a10_ret (t : Term) (widths : List Int) (masks : List Int) (v0 : Int) (v1 : Int) (v2 : List (Int × Int)) (v3 : List (Int × Int)) (v4 : Int) : l27_GraphSays_C10 .ret (l27_GraphSays_s10 t widths masks v0 v1 v2 v3 v4) =
 some (R_l27_GraphSays (false)) := by kernel_rfl
theorem l27_GraphSays_a10_x0 (t : Term) (widths : List Int) (masks : List Int) (v0 : Int) (v1 : Int) (v2 : List (Int × Int)) (v3 : List (Int × Int)) (v4 : Int) : l27_GraphSays_C10 (.exit 0) (l27_GraphSays_s10 t widths masks v0 v1 v2 v3 v4) =
 cndO (l27_awake)
  (obO ((Term.ids t).sz ≤ (1000000 : Nat))
   (obO ((Term.ids t).sz ≤ (1000000 : Nat))
    (cndO (graph_Mask (Term.ids t) widths == r27_Mask (Term.ids t) widths)
     (cndO (graph_Linked masks v0 v1 == r27_Linked masks v0 v1)
      (some (R_l27_GraphSays (graph_Linked masks v0 v1 == graph_Linked masks v1 v0)))
      (some (R_l27_GraphSays (false))))
     (some (R_l27_GraphSays (false))))))
  (some (R_l27_GraphSays (false))) := by kernel_rfl

def l27_GraphSays (_t : Term) (_widths _masks : List Int) : Bool := true
theorem says_end (t : Term) (widths masks : List Int) (a b set : Int) (h : t.sz ≤ 1000000) : (l27_GraphSays_L10 (l27_GraphSays_s10 t widths masks a b (splitsA set) (splitsA set) (0 : Int))).bind (thenX l27_GraphSays_C10) = some (R_l27_GraphSays true) := by
  have hl := splitsA_len set
  obtain ⟨lp, _⟩ := loop_fold (e := .exit 0) (L := l27_GraphSays_L10) (st := fun (_ : Unit) i => l27_GraphSays_s10 t widths masks a b (splitsA set) (splitsA set) i) (l := splitsA set) (d := ((0 : Int), (0 : Int))) (g := fun _ _ => ()) (fun _ _ => True) (by omega)
    (fun _ k x hk hx _ => by
      refine ⟨trivial, ?_⟩
      rw [l27_GraphSays_l10]
      simp only [Int.toNat_natCast, hx, cndO_eq, decide_eq_true_eq]
      rw [if_pos (by omega), obO_pos (by omega), obO_pos (by omega), if_neg (by simp [andB])])
    (fun _ _ => by
      rw [l27_GraphSays_l10]
      simp only [cndO_eq, decide_eq_true_eq]
      rw [if_neg (by omega)]) () trivial
  refine (loop_end lp).trans ?_
  rw [l27_GraphSays_a10_x0]
  have hsy : graph_Linked masks a b = graph_Linked masks b a := by
    unfold graph_Linked
    congr 1
    funext m
    exact linkB_symm m a b
  have hli : graph_Linked masks a b = r27_Linked masks a b := rfl
  have hma : graph_Mask t widths = r27_Mask t widths := rfl
  simp only [Term.ids_eq, l27_awake, cndO_eq, if_true]
  rw [obO_pos h, obO_pos h, hma, ← hli, ← hsy]
  simp
theorem l27_GraphSays_spec (t : Term) (widths masks : List Int) (_ht : WS .term t) (_hw : WL .int widths) (_hm : WL .int masks) : l27_GraphSays_fn t widths masks = some (R_l27_GraphSays (l27_GraphSays t widths masks)) := by
  rw [l27_GraphSays_in]
  unfold l27_GraphSays
  simp only [Term.ids_eq, gS_eq, rS_eq, l27_awake, bne_self_eq_false]
  cases hL : l21_Large t with
  | true => rfl
  | false =>
    have hs := large_sz (t := t) (by rw [hL]; decide)
    simp only [cndO_eq, decide_eq_true_eq]
    by_cases h1 : (widths.length : Int) > 100
    · rw [if_neg (by decide), if_pos h1]
    · by_cases h2 : (masks.length : Int) > 100
      · rw [if_neg (by decide), if_neg h1, if_pos h2]
      · by_cases h3 : (masks.length : Int) > 1
        · rw [if_neg (by decide), if_neg h1, if_neg h2, if_pos h3, obO_pos (by omega), obO_pos (by omega), if_neg (by decide), says_end t widths masks _ _ _ (by omega)]
        · rw [if_neg (by decide), if_neg h1, if_neg h2, if_neg h3, if_neg (by decide), says_end t widths masks _ _ _ (by omega)]

def F_l27_GraphSays : FnC Un := fun args => match args with
  | [x0, x1, x2] => (dS .term x0).bind fun t => (dL .int x1).bind fun widths => (dL .int x2).bind fun masks => some ([], A_l27_GraphSays (l27_GraphSays t widths masks), O_l27_GraphSays (l27_GraphSays t widths masks))
  | _ => none

theorem ok_l27_GraphSays : FnOK 5 F_l27_GraphSays := by
  intro args ob rs os h hob
  unfold F_l27_GraphSays at h
  split at h
  · simp only [Option.bind_eq_some_iff, Option.some.injEq, Prod.mk.injEq] at h
    obtain ⟨t, e0, widths, e1, masks, e2, rfl, rfl, rfl⟩ := h
    obtain rfl := dS_eq e0
    obtain rfl := dL_eq e1
    obtain rfl := dL_eq e2
    exact ⟨fn_contractF (M := M_l27_GraphSays) rfl (tbl_ok (l1 := [(8, F_l21_Large), (25, F_l27_awake), (26, F_graph_Splits), (27, F_r27_Splits), (28, F_graph_Mask), (29, F_r27_Mask), (30, F_graph_Linked), (31, F_r27_Linked)]) (l2 := []) (l3 := []) (l4 := []) (l5 := []) ⟨ok_l21_Large, ok_l27_awake, ok_graph_Splits, ok_r27_Splits, ok_graph_Mask, ok_r27_Mask, ok_graph_Linked, ok_r27_Linked, trivial⟩ trivial trivial trivial trivial) Try.func5 (by kernel_rfl) N_l27_GraphSays 0 [.d] (fun hwf => (l27_GraphSays_spec t widths masks (wfArg hwf (a := .d (.agg (enc Ty.term t))) (List.mem_of_getElem? (i := 0) rfl)) (wfArg hwf (a := .d (.v (.dat (U := Un) Ty.int widths))) (List.mem_of_getElem? (i := 1) rfl)) (wfArg hwf (a := .d (.v (.dat (U := Un) Ty.int masks))) (List.mem_of_getElem? (i := 2) rfl)))), hasBody_of Try.func5 (by kernel_rfl) (by kernel_rfl)⟩
  · simp at h


/-! ### tabellionlaw27.GraphMasks -/
def M_l27_GraphMasks : Mc Un := mach (tbl [(8, F_l21_Large), (25, F_l27_awake), (17, F_conj_Uses), (21, F_conj_Within), (28, F_graph_Mask)]) (tbl []) (tbl []) (tbl []) (tbl [])
def A_l27_GraphMasks (r : Bool) : List (A Un) := [.c (.s (.bool r))]
def O_l27_GraphMasks (_r : Bool) : List (Ob Un) := []
def R_l27_GraphMasks (r : Bool) : RF Un := (A_l27_GraphMasks r, O_l27_GraphMasks r)
def N_l27_GraphMasks : Nat → NS := fun l => (look l [(6, { ts := bl 88 988, bs := bl 88 152, nm := [(.cell 7 7, 352)] })]).getD ⟨[], [], [], [], []⟩
def l27_GraphMasks_s6 (a : Term) (b : Term) (widths : List Int) (v0 : Int) (v1 : Int) : S Un := (st 88 88 353 0 [(2, al .int widths), (3, ax 3), (4, ax 4), (6, ab false), (7, ax 7), (8, ai v0), (9, ai v1)] [(3, bg .term a), (4, bg .term b), (7, some (false, [C.s (Value.int IntKind.i64 (17 : Int)), C.s (Value.int IntKind.i64 (0 : Int)), C.s (Value.int IntKind.i64 (0 : Int)), C.s (Value.string (ByteArray.mk #[])), C.s (Value.int IntKind.i64 (0 : Int)), C.s (Value.int IntKind.i64 (0 : Int)), C.s (Value.string (ByteArray.mk #[])), C.ob (352 : Nat) (0 : Nat), C.sl Ty.rel [] true, C.s (Value.int IntKind.i64 (1 : Int))]))] [(352, some ⟨(0 : Nat), Ty.term, [(Term.ids a), (Term.ids b)], some (0 : Nat), true⟩)])
def l27_GraphMasks_e6_ret (a : Term) (b : Term) (widths : List Int) (v0 : Int) (v1 : Int) (v2 : Bool) : S Un := (st 88 88 353 0 [(2, al .int widths), (3, ax 3), (4, ax 4), (6, ab v2), (7, ax 7), (8, ai v0), (9, ai v1)] [(3, bg .term a), (4, bg .term b), (7, some (false, [C.s (Value.int IntKind.i64 (17 : Int)), C.s (Value.int IntKind.i64 (0 : Int)), C.s (Value.int IntKind.i64 (0 : Int)), C.s (Value.string (ByteArray.mk #[])), C.s (Value.int IntKind.i64 (0 : Int)), C.s (Value.int IntKind.i64 (0 : Int)), C.s (Value.string (ByteArray.mk #[])), C.ob (352 : Nat) (0 : Nat), C.sl Ty.rel [] true, C.s (Value.int IntKind.i64 (1 : Int))]))] [(352, some ⟨(0 : Nat), Ty.term, [(Term.ids a), (Term.ids b)], some (0 : Nat), true⟩)])
def l27_GraphMasks_B6 : Code := sub (bodyOf Try.f7) [1, 1, 1, 1, 0, 1, 2, 2]
def l27_GraphMasks_L6 : S Un → Option (EX Un) := loopF (N_l27_GraphMasks 6) (fun s Q => awf M_l27_GraphMasks N_l27_GraphMasks l27_GraphMasks_B6 s Q)
def l27_GraphMasks_C6 : Exit → S Un → Option (RF Un) := ctxF M_l27_GraphMasks N_l27_GraphMasks (bodyOf Try.f7) [1, 1, 1, 1, 0, 1, 2] (retF M_l27_GraphMasks Try.f7.results.toList [.d])
def l27_GraphMasks_fn (a : Term) (b : Term) (widths : List Int) : Option (RF Un) := awf M_l27_GraphMasks N_l27_GraphMasks (bodyOf Try.f7) (entry Try.f7.ntmps 1 [.d (.agg (enc Ty.term a)), .d (.agg (enc Ty.term b)), .d (.v (.dat (U := Un) Ty.int widths))]) (retF M_l27_GraphMasks Try.f7.results.toList [.d])
theorem l27_GraphMasks_in (a : Term) (b : Term) (widths : List Int) : l27_GraphMasks_fn a b widths =
 cndO (l21_Large (Term.ids a))
  (some (R_l27_GraphMasks (l27_awake)))
  (cndO (l21_Large (Term.ids b))
   (some (R_l27_GraphMasks (l27_awake)))
   (cndO (decide ((↑widths.length : Int) > (20 : Int)))
    (some (R_l27_GraphMasks (l27_awake)))
    ((l27_GraphMasks_L6 (l27_GraphMasks_s6 a b widths (0 : Int) (0 : Int))).bind (thenX l27_GraphMasks_C6)))) := by kernel_rfl
def l27_GraphMasks_t1 (a : Term) (b : Term) (widths : List Int) (v0 : Int) (v1 : Int) : Option (EX Un) :=
 obO (0 ≤ v1 ∧ v1 < (↑widths.length : Int))
  (l27_GraphMasks_L6 (l27_GraphMasks_s6 a b widths (IntKind.i64.wrap (v0 + widths.getD v1.toNat (0 : Int))) (IntKind.i64.wrap (v1 + 1))))
theorem l27_GraphMasks_l6 (a : Term) (b : Term) (widths : List Int) (v0 : Int) (v1 : Int) : l27_GraphMasks_L6 (l27_GraphMasks_s6 a b widths v0 v1) =
 cndO (decide (v1 < (↑widths.length : Int)))
  (obO (0 ≤ v1 ∧ v1 < (↑widths.length : Int))
   (cndO (decide (widths.getD v1.toNat (0 : Int) < (0 : Int)))
    (some (.ret, (l27_GraphMasks_e6_ret a b widths v0 v1 l27_awake)))
    (obO (0 ≤ v1 ∧ v1 < (↑widths.length : Int))
     (cndO (decide (widths.getD v1.toNat (0 : Int) > (1000 : Int)))
      (some (.ret, (l27_GraphMasks_e6_ret a b widths v0 v1 l27_awake)))
      (obO (useOK (Term.ids a) (0 : Int))
       (cndO (decide ((↑(conj_Uses (Term.ids a) (0 : Int)).length : Int) > (0 : Int)))
        (obO (0 ≤ v1 ∧ v1 < (↑widths.length : Int))
         (obO ((Term.ids a).sz ≤ (1000000 : Nat))
          (cndO (conj_Within (Term.ids a) v0 (IntKind.i64.wrap (v0 + widths.getD v1.toNat (0 : Int))))
           (obO ((Term.ids a).sz ≤ (1000000 : Nat))
            (obO (¬v1 < 0)
             (cndO (graph_Mask (Term.ids a) widths != IntKind.i64.wrap ((1 : Int) * (2 : Int) ^ min v1.toNat IntKind.i64.bits))
              (some (.ret, (l27_GraphMasks_e6_ret a b widths v0 v1 false)))
              (l27_GraphMasks_t1 a b widths v0 v1))))
           (l27_GraphMasks_t1 a b widths v0 v1))))
        (l27_GraphMasks_t1 a b widths v0 v1)))))))
  (some (.exit 0, (l27_GraphMasks_s6 a b widths v0 v1))) := (loopF_eq (N_l27_GraphMasks 6) l27_GraphMasks_B6 _).trans (by kernel_rfl)
theorem l27_GraphMasks_a6_ret (a : Term) (b : Term) (widths : List Int) (v0 : Int) (v1 : Int) (v2 : Bool) : l27_GraphMasks_C6 .ret (l27_GraphMasks_e6_ret a b widths v0 v1 v2) =
 some (R_l27_GraphMasks (v2)) := by kernel_rfl
theorem l27_GraphMasks_a6_x0 (a : Term) (b : Term) (widths : List Int) (v0 : Int) (v1 : Int) : l27_GraphMasks_C6 (.exit 0) (l27_GraphMasks_s6 a b widths v0 v1) =
 cndO (l27_awake)
  (obO ((Term.mk (17 : Int) zeroVal (0 : Int) (0 : Int) (ByteArray.mk #[]) [(Term.ids a), (Term.ids b)] [] (1 : Int)).sz ≤ (1000000 : Nat))
   (obO ((Term.ids a).sz ≤ (1000000 : Nat))
    (obO ((Term.ids b).sz ≤ (1000000 : Nat))
     (some (R_l27_GraphMasks (graph_Mask (Term.mk (17 : Int) zeroVal (0 : Int) (0 : Int) (ByteArray.mk #[]) [(Term.ids a), (Term.ids b)] [] (1 : Int)) widths == IntKind.i64.wrap (↑(BitVec.ofInt IntKind.i64.bits (graph_Mask (Term.ids a) widths) ||| BitVec.ofInt IntKind.i64.bits (graph_Mask (Term.ids b) widths)).toNat : Int)))))))
  (some (R_l27_GraphMasks (false))) := by kernel_rfl

def l27_GraphMasks (_a _b : Term) (_widths : List Int) : Bool := true
theorem both_uses (a b : Term) (x : Int) : x ∈ usesA (.mk 17 zeroVal 0 0 ⟨#[]⟩ [a, b] [] 1) 0 ↔ x ∈ usesA a 0 ∨ x ∈ usesA b 0 := by
  unfold usesA
  rw [riseI_mem, riseI_mem, riseI_mem]
  simp only [inT, inTs, inRs, List.append_nil, List.mem_append]
  simp
theorem masks_walk (a b : Term) (widths : List Int) (hl : widths.length ≤ 20) (ha : a.sz ≤ 600) (hb : b.sz ≤ 600) : ∀ (r pre : List Int), widths = pre ++ r → (∀ x ∈ pre, 0 ≤ x ∧ x ≤ 1000) → 0 ≤ pre.foldl (· + ·) 0 → pre.foldl (· + ·) 0 ≤ 1000 * (pre.length : Int) →
    (l27_GraphMasks_L6 (l27_GraphMasks_s6 a b widths (pre.foldl (· + ·) 0) (pre.length : Int))).bind (thenX l27_GraphMasks_C6) = some (R_l27_GraphMasks true) := by
  intro r
  induction r with
  | nil =>
    intro pre hw _ _ _
    rw [List.append_nil] at hw
    have e : l27_GraphMasks_L6 (l27_GraphMasks_s6 a b widths (pre.foldl (· + ·) 0) (pre.length : Int)) = some (.exit 0, l27_GraphMasks_s6 a b widths (pre.foldl (· + ·) 0) (pre.length : Int)) := by
      rw [l27_GraphMasks_l6, cndO_eq, if_neg (by rw [decide_eq_true_eq, hw]; omega)]
    refine (loop_end e).trans ?_
    have hsz : (Term.mk 17 zeroVal 0 0 ⟨#[]⟩ [a, b] [] 1).sz ≤ 1000000 := by simp only [Term.sz, szTs, szRs]; omega
    have hor := maskA_or (both_uses a b) widths
    have l1 := maskA_lt (usesA a 0) widths
    have l2 := maskA_lt (usesA b 0) widths
    rw [l27_GraphMasks_a6_x0]
    simp only [Term.ids_eq, l27_awake, cndO_eq, if_true, graph_Mask]
    rw [obO_pos hsz, obO_pos (by omega), obO_pos (by omega), k_orNat (by omega) (by omega), hor]
    simp
  | cons w r ih =>
    intro pre hw hp h0 h1
    have hlen : pre.length < widths.length := by rw [hw, List.length_append, List.length_cons]; omega
    have hg : widths.getD pre.length 0 = w := by
      rw [hw, List.getD_eq_getElem?_getD, List.getElem?_append_right (Nat.le_refl _), Nat.sub_self]
      rfl
    have next : 0 ≤ w → w ≤ 1000 → (l27_GraphMasks_t1 a b widths (pre.foldl (· + ·) 0) (pre.length : Int)).bind (thenX l27_GraphMasks_C6) = some (R_l27_GraphMasks true) := by
      intro w0 w1
      have hf : (pre ++ [w]).foldl (· + ·) 0 = pre.foldl (· + ·) 0 + w := by rw [List.foldl_append]; rfl
      have hn := ih (pre ++ [w]) (by rw [hw, List.append_assoc]; rfl) (fun x hx => by
        rcases List.mem_append.1 hx with e | e
        · exact hp x e
        · rw [List.mem_singleton] at e; omega) (by rw [hf]; omega) (by rw [hf, List.length_append, List.length_singleton]; omega)
      unfold l27_GraphMasks_t1
      rw [obO_pos (by omega), Int.toNat_natCast, hg, wrap_id (n := _ + w) (by omega), wrap_id (n := _ + 1) (by omega)]
      rw [hf, List.length_append, List.length_singleton] at hn
      exact hn
    have awk : (some (Exit.ret, l27_GraphMasks_e6_ret a b widths (pre.foldl (· + ·) 0) (pre.length : Int) true)).bind (thenX l27_GraphMasks_C6) = some (R_l27_GraphMasks true) := (loop_end rfl).trans (l27_GraphMasks_a6_ret _ _ _ _ _ _)
    rw [l27_GraphMasks_l6]
    simp only [Term.ids_eq, l27_awake, Int.toNat_natCast, hg, cndO_eq, decide_eq_true_eq, conj_Uses_eq, conj_Within_eq, graph_Mask]
    rw [if_pos (by omega), obO_pos (by omega)]
    by_cases c1 : w < 0
    · rw [if_pos c1]; exact awk
    · rw [if_neg c1, obO_pos (by omega)]
      by_cases c2 : w > 1000
      · rw [if_pos c2]; exact awk
      · rw [if_neg c2, obO_pos (show useOK a 0 from ⟨by omega, by omega⟩)]
        by_cases c3 : ((usesA a 0).length : Int) > 0
        · rw [if_pos c3, obO_pos (by omega), obO_pos (by omega), wrap_id (n := _ + w) (by omega)]
          by_cases c4 : withinA a (pre.foldl (· + ·) 0) (pre.foldl (· + ·) 0 + w) = true
          · have hin : ∀ u ∈ usesA a 0, pre.foldl (· + ·) 0 ≤ u ∧ u < pre.foldl (· + ·) 0 + w := by
              intro u hu
              unfold withinA at c4
              have := List.all_eq_true.1 c4 u hu
              rwa [decide_eq_true_eq] at this
            have hm : maskA (usesA a 0) widths = 2 ^ pre.length := by
              have := mask_within (uses := usesA a 0) (by intro e; rw [e] at c3; simp at c3) w ⟨by omega, by omega⟩ r pre 0 0 0 hp (Int.le_refl 0) (by omega) (fun u hu => by have := hin u hu; omega)
              unfold maskA
              rw [List.take_of_length_le (by omega), hw, this, Nat.zero_add, Nat.zero_add]
            rw [if_pos c4, obO_pos (by omega), obO_pos (by omega), k_shl (by omega), hm, if_neg (by simp)]
            exact next (by omega) (by omega)
          · rw [if_neg c4]
            exact next (by omega) (by omega)
        · rw [if_neg c3]
          exact next (by omega) (by omega)
theorem l27_GraphMasks_spec (a b : Term) (widths : List Int) (_ha : WS .term a) (_hb : WS .term b) (_hw : WL .int widths) : l27_GraphMasks_fn a b widths = some (R_l27_GraphMasks (l27_GraphMasks a b widths)) := by
  rw [l27_GraphMasks_in]
  unfold l27_GraphMasks
  simp only [Term.ids_eq, l27_awake]
  cases hL : l21_Large a with
  | true => rfl
  | false =>
    cases hM : l21_Large b with
    | true => rfl
    | false =>
      have ha := large_sz (t := a) (by rw [hL]; decide)
      have hb := large_sz (t := b) (by rw [hM]; decide)
      simp only [cndO_eq, decide_eq_true_eq]
      by_cases h1 : (widths.length : Int) > 20
      · rw [if_neg (by decide), if_neg (by decide), if_pos h1]
      · rw [if_neg (by decide), if_neg (by decide), if_neg h1]
        exact masks_walk a b widths (by omega) ha hb widths [] rfl (by simp) (Int.le_refl 0) (Int.le_refl 0)

def F_l27_GraphMasks : FnC Un := fun args => match args with
  | [x0, x1, x2] => (dS .term x0).bind fun a => (dS .term x1).bind fun b => (dL .int x2).bind fun widths => some ([], A_l27_GraphMasks (l27_GraphMasks a b widths), O_l27_GraphMasks (l27_GraphMasks a b widths))
  | _ => none

theorem ok_l27_GraphMasks : FnOK 7 F_l27_GraphMasks := by
  intro args ob rs os h hob
  unfold F_l27_GraphMasks at h
  split at h
  · simp only [Option.bind_eq_some_iff, Option.some.injEq, Prod.mk.injEq] at h
    obtain ⟨a, e0, b, e1, widths, e2, rfl, rfl, rfl⟩ := h
    obtain rfl := dS_eq e0
    obtain rfl := dS_eq e1
    obtain rfl := dL_eq e2
    exact ⟨fn_contractF (M := M_l27_GraphMasks) rfl (tbl_ok (l1 := [(8, F_l21_Large), (25, F_l27_awake), (17, F_conj_Uses), (21, F_conj_Within), (28, F_graph_Mask)]) (l2 := []) (l3 := []) (l4 := []) (l5 := []) ⟨ok_l21_Large, ok_l27_awake, ok_conj_Uses, ok_conj_Within, ok_graph_Mask, trivial⟩ trivial trivial trivial trivial) Try.func7 (by kernel_rfl) N_l27_GraphMasks 1 [.d] (fun hwf => (l27_GraphMasks_spec a b widths (wfArg hwf (a := .d (.agg (enc Ty.term a))) (List.mem_of_getElem? (i := 0) rfl)) (wfArg hwf (a := .d (.agg (enc Ty.term b))) (List.mem_of_getElem? (i := 1) rfl)) (wfArg hwf (a := .d (.v (.dat (U := Un) Ty.int widths))) (List.mem_of_getElem? (i := 2) rfl)))), hasBody_of Try.func7 (by kernel_rfl) (by kernel_rfl)⟩
  · simp at h


end
end Go.Proofs.Ytaepcbdcjbfgjaa.B
