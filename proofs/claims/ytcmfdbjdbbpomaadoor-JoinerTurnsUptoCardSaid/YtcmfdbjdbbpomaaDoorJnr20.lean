/- Part 20 of the proof: Slaw32b JoinerTurnsCardProof. -/
import Derived.SizedLaws
import Derived.JoinedCond
import Derived.Deep.DeepHandedRow
import Derived.OpenShut
import Derived.Test.YtcmfdbjdbbpomaaDoorCards
import Derived.Test.YtcmfdbjdbbpomaaDoorTie
import Derived.Test.YtcmfdbjdbbpomaaDoorRows
import Derived.Test.YtcmfdbjdbbpomaaDoorJnr19
namespace Go.Proofs.YtcmfdbjdbbpomaaDoor.B
open Go Go.RowKit
set_option maxRecDepth 100000
noncomputable section
attribute [local irreducible] awp ctxK itersK iterK retQ retGQ awf ctxF loopF
def M_l32_JoinerTurns : Mc Un := mach (tbl [(6, F_l32_awake), (11, F_joiner_Merge), (10, F_joiner_Hash), (14, F_value_Orders), (9, F_joiner_Nest)]) (tbl []) (tbl []) (tbl []) (tbl [])
def A_l32_JoinerTurns (r : Bool) : List (A Un) := [.c (.s (.bool r))]
def O_l32_JoinerTurns (_r : Bool) : List (Ob Un) := []
def R_l32_JoinerTurns (r : Bool) : RF Un := (A_l32_JoinerTurns r, O_l32_JoinerTurns r)
def N_l32_JoinerTurns : Nat → NS := fun l => (look l [(7, { ts := bl 179 967, bs := bl 179 0, nm := [(.sl 8, 716)], cs := true }), (16, { ts := bl 179 16327, bs := bl 179 0, nm := [(.sl 8, 717)], cs := true }), (25, { ts := bl 179 114881, bs := bl 179 0, nm := [], cs := true })]).getD ⟨[], [], [], [], [], true⟩
def l32_JoinerTurns_s7 (l : List (List Val)) (r : List (List Val)) (more : List Val) (v0 : Int) : S Un := (st 179 179 718 0 [(0, al .row l), (1, al .row r), (2, al .val more), (6, ab false), (7, al .pair (joiner_Merge l r)), (8, ao 716), (9, ai v0)] [] [(716, some ⟨(0 : Nat), Ty.pair, jPairs r l, some (0 : Nat), true⟩)])
def l32_JoinerTurns_s16 (l : List (List Val)) (r : List (List Val)) (more : List Val) (v0 : Int) (v1 : Int) (v2 : Int) : S Un := (st 179 179 718 0 [(0, al .row l), (1, al .row r), (2, al .val more), (6, ab false), (7, al .pair (joiner_Merge l r)), (8, ao 717), (9, ai v0), (10, AV.one (A.c (C.s (Value.int IntKind.i64 ((joiner_Merge l r).getD v0.toNat ((0 : Int), (0 : Int))).fst)))), (11, AV.one (A.c (C.s (Value.int IntKind.i64 ((joiner_Merge l r).getD v0.toNat ((0 : Int), (0 : Int))).snd)))), (12, ai v1), (13, ai v2)] [] [(717, some ⟨(0 : Nat), Ty.pair, jPairs r l, some (0 : Nat), true⟩)])
def l32_JoinerTurns_s25 (l : List (List Val)) (r : List (List Val)) (more : List Val) (v3 : Int) (v4 : Int) : S Un := (st 179 179 718 0 [(0, al .row l), (6, ab false), (7, al .pair (joiner_Merge l r)), (14, al .pair (joiner_Nest (l ++ [more]) r)), (15, ai v3), (16, ai v4)] [] [])
noncomputable def l32_JoinerTurns_B7 : Code := sub (bodyOf Tryd.f5) [1, 1, 1, 1, 0, 1, 2, 2]
def l32_JoinerTurns_L7 : S Un → Option (EX Un) := loopF (N_l32_JoinerTurns 7) (fun s Q => awf M_l32_JoinerTurns N_l32_JoinerTurns l32_JoinerTurns_B7 s Q)
noncomputable def l32_JoinerTurns_B16 : Code := sub (sub (bodyOf Tryd.f5) [1, 1, 1, 1, 0, 1, 2, 2]) [1, 0, 2, 1, 1, 1, 1, 0, 1, 2, 2]
def l32_JoinerTurns_L16 : S Un → Option (EX Un) := loopF (N_l32_JoinerTurns 16) (fun s Q => awf M_l32_JoinerTurns N_l32_JoinerTurns l32_JoinerTurns_B16 s Q)
noncomputable def l32_JoinerTurns_B25 : Code := sub (bodyOf Tryd.f5) [1, 1, 1, 1, 1, 1, 1, 0, 1, 2, 2]
def l32_JoinerTurns_L25 : S Un → Option (EX Un) := loopF (N_l32_JoinerTurns 25) (fun s Q => awf M_l32_JoinerTurns N_l32_JoinerTurns l32_JoinerTurns_B25 s Q)
def l32_JoinerTurns_C7 : Exit → S Un → Option (RF Un) := ctxF M_l32_JoinerTurns N_l32_JoinerTurns (bodyOf Tryd.f5) [1, 1, 1, 1, 0, 1, 2] (retF M_l32_JoinerTurns Tryd.f5.results.toList [.d])
def l32_JoinerTurns_C16 : Exit → S Un → Option (EX Un) := ctxF M_l32_JoinerTurns N_l32_JoinerTurns l32_JoinerTurns_B7 [1, 0, 2, 1, 1, 1, 1, 0, 1, 2] (roundF (N_l32_JoinerTurns 7) l32_JoinerTurns_L7)
def l32_JoinerTurns_C25 : Exit → S Un → Option (RF Un) := ctxF M_l32_JoinerTurns N_l32_JoinerTurns (bodyOf Tryd.f5) [1, 1, 1, 1, 1, 1, 1, 0, 1, 2] (retF M_l32_JoinerTurns Tryd.f5.results.toList [.d])
def l32_JoinerTurns_fn (l : List (List Val)) (r : List (List Val)) (more : List Val) : Option (RF Un) := awf M_l32_JoinerTurns N_l32_JoinerTurns (bodyOf Tryd.f5) (entry Tryd.f5.ntmps 2 [.d (.v (.dat (U := Un) Ty.row l)), .d (.v (.dat (U := Un) Ty.row r)), .d (.v (.dat (U := Un) Ty.val more))]) (retF M_l32_JoinerTurns Tryd.f5.results.toList [.d])
theorem l32_JoinerTurns_in (l : List (List Val)) (r : List (List Val)) (more : List Val) : l32_JoinerTurns_fn l r more =
 cndO (decide ((↑l.length : Int) > (40 : Int)))
  (some (R_l32_JoinerTurns (l32_awake)))
  (cndO (decide ((↑r.length : Int) > (40 : Int)))
   (some (R_l32_JoinerTurns (l32_awake)))
   (obO (jBound l r)
    (obO (jBound r l ∧ keysOK r ∧ keysOK l)
     (cndO ((↑(joiner_Merge l r).length : Int) != (↑(jPairs r l).length : Int))
      (some (R_l32_JoinerTurns (false)))
      ((l32_JoinerTurns_L7 (l32_JoinerTurns_s7 l r more (0 : Int))).bind (thenX l32_JoinerTurns_C7)))))) := by kernel_rfl
theorem l32_JoinerTurns_l7 (l : List (List Val)) (r : List (List Val)) (more : List Val) (v0 : Int) : l32_JoinerTurns_L7 (l32_JoinerTurns_s7 l r more v0) =
 cndO (decide (v0 < (↑(joiner_Merge l r).length : Int)))
  (obO (0 ≤ v0 ∧ v0 < (↑(joiner_Merge l r).length : Int))
   (obO (0 ≤ v0 ∧ v0 < (↑(joiner_Merge l r).length : Int))
    (cndO (decide (((joiner_Merge l r).getD v0.toNat ((0 : Int), (0 : Int))).fst < 0))
     (some (.ret, (l32_JoinerTurns_s7 l r more v0)))
     (cndO (decide (((joiner_Merge l r).getD v0.toNat ((0 : Int), (0 : Int))).fst ≥ (↑l.length : Int)))
      (some (.ret, (l32_JoinerTurns_s7 l r more v0)))
      (cndO (decide (((joiner_Merge l r).getD v0.toNat ((0 : Int), (0 : Int))).snd < 0))
       (some (.ret, (l32_JoinerTurns_s7 l r more v0)))
       (cndO (decide (((joiner_Merge l r).getD v0.toNat ((0 : Int), (0 : Int))).snd ≥ (↑r.length : Int)))
        (some (.ret, (l32_JoinerTurns_s7 l r more v0)))
        (obO ((0 : Int) ≤ ((joiner_Merge l r).getD v0.toNat ((0 : Int), (0 : Int))).fst ∧ ((joiner_Merge l r).getD v0.toNat ((0 : Int), (0 : Int))).fst < (↑l.length : Int))
         (obO ((0 : Int) ≤ ((joiner_Merge l r).getD v0.toNat ((0 : Int), (0 : Int))).snd ∧ ((joiner_Merge l r).getD v0.toNat ((0 : Int), (0 : Int))).snd < (↑r.length : Int))
          (cndO (value_Orders (l.getD ((joiner_Merge l r).getD v0.toNat ((0 : Int), (0 : Int))).fst.toNat []) (r.getD ((joiner_Merge l r).getD v0.toNat ((0 : Int), (0 : Int))).snd.toNat []) != 0)
           (some (.ret, (l32_JoinerTurns_s7 l r more v0)))
           (cndO (decide (v0 > 0))
            (obO (0 ≤ IntKind.i64.wrap (v0 - 1) ∧ IntKind.i64.wrap (v0 - 1) < (↑(joiner_Merge l r).length : Int))
             (cndO (decide (((joiner_Merge l r).getD (IntKind.i64.wrap (v0 - 1)).toNat ((0 : Int), (0 : Int))).fst > ((joiner_Merge l r).getD v0.toNat ((0 : Int), (0 : Int))).fst))
              (some (.ret, (l32_JoinerTurns_s7 l r more v0)))
              (obO (0 ≤ IntKind.i64.wrap (v0 - 1) ∧ IntKind.i64.wrap (v0 - 1) < (↑(joiner_Merge l r).length : Int))
               (cndO (((joiner_Merge l r).getD (IntKind.i64.wrap (v0 - 1)).toNat ((0 : Int), (0 : Int))).fst == ((joiner_Merge l r).getD v0.toNat ((0 : Int), (0 : Int))).fst)
                (obO (0 ≤ IntKind.i64.wrap (v0 - 1) ∧ IntKind.i64.wrap (v0 - 1) < (↑(joiner_Merge l r).length : Int))
                 (cndO (decide (((joiner_Merge l r).getD (IntKind.i64.wrap (v0 - 1)).toNat ((0 : Int), (0 : Int))).snd ≥ ((joiner_Merge l r).getD v0.toNat ((0 : Int), (0 : Int))).snd))
                  (some (.ret, (l32_JoinerTurns_s7 l r more v0)))
                  ((l32_JoinerTurns_L16 (l32_JoinerTurns_s16 l r more v0 (0 : Int) (0 : Int))).bind (thenX l32_JoinerTurns_C16))))
                ((l32_JoinerTurns_L16 (l32_JoinerTurns_s16 l r more v0 (0 : Int) (0 : Int))).bind (thenX l32_JoinerTurns_C16))))))
            ((l32_JoinerTurns_L16 (l32_JoinerTurns_s16 l r more v0 (0 : Int) (0 : Int))).bind (thenX l32_JoinerTurns_C16))))))))))))
  (some (.exit 0, (l32_JoinerTurns_s7 l r more v0))) := (loopF_eq (N_l32_JoinerTurns 7) l32_JoinerTurns_B7 _).trans (by kernel_rfl)
theorem l32_JoinerTurns_a7_x0 (l : List (List Val)) (r : List (List Val)) (more : List Val) (v0 : Int) : l32_JoinerTurns_C7 (.exit 0) (l32_JoinerTurns_s7 l r more v0) =
 obO ((0 + l.length) * (24 : Nat) ≤ roomB)
  (obO (((l).length + [more].length) * (24 : Nat) ≤ roomB)
   (obO (jBound (l ++ [more]) r)
    ((l32_JoinerTurns_L25 (l32_JoinerTurns_s25 l r more (0 : Int) (0 : Int))).bind (thenX l32_JoinerTurns_C25)))) := by kernel_rfl
theorem l32_JoinerTurns_l16 (l : List (List Val)) (r : List (List Val)) (more : List Val) (v0 : Int) (v1 : Int) (v2 : Int) : l32_JoinerTurns_L16 (l32_JoinerTurns_s16 l r more v0 v1 v2) =
 cndO (decide (v2 < (↑(jPairs r l).length : Int)))
  (obO (0 ≤ v2 ∧ v2 < (↑(jPairs r l).length : Int))
   (cndO (andB [EK.int IntKind.i64] (((jPairs r l).getD v2.toNat ((0 : Int), (0 : Int))).fst == ((joiner_Merge l r).getD v0.toNat ((0 : Int), (0 : Int))).snd) (andB [] (((jPairs r l).getD v2.toNat ((0 : Int), (0 : Int))).snd == ((joiner_Merge l r).getD v0.toNat ((0 : Int), (0 : Int))).fst) true))
    (l32_JoinerTurns_L16 (l32_JoinerTurns_s16 l r more v0 (IntKind.i64.wrap (v1 + 1)) (IntKind.i64.wrap (v2 + 1))))
    (l32_JoinerTurns_L16 (l32_JoinerTurns_s16 l r more v0 v1 (IntKind.i64.wrap (v2 + 1))))))
  (some (.exit 2, (l32_JoinerTurns_s16 l r more v0 v1 v2))) := (loopF_eq (N_l32_JoinerTurns 16) l32_JoinerTurns_B16 _).trans (by kernel_rfl)
theorem l32_JoinerTurns_a16_x2 (l : List (List Val)) (r : List (List Val)) (more : List Val) (v0 : Int) (v1 : Int) (v2 : Int) : l32_JoinerTurns_C16 (.exit 2) (l32_JoinerTurns_s16 l r more v0 v1 v2) =
 cndO (v1 != 1)
  (some (.ret, (l32_JoinerTurns_s7 l r more v0)))
  (l32_JoinerTurns_L7 (l32_JoinerTurns_s7 l r more (IntKind.i64.wrap (v0 + 1)))) := by kernel_rfl
theorem l32_JoinerTurns_l25 (l : List (List Val)) (r : List (List Val)) (more : List Val) (v3 : Int) (v4 : Int) : l32_JoinerTurns_L25 (l32_JoinerTurns_s25 l r more v3 v4) =
 cndO (decide (v4 < (↑(joiner_Nest (l ++ [more]) r).length : Int)))
  (obO (0 ≤ v4 ∧ v4 < (↑(joiner_Nest (l ++ [more]) r).length : Int))
   (cndO (decide (((joiner_Nest (l ++ [more]) r).getD v4.toNat ((0 : Int), (0 : Int))).fst < (↑l.length : Int)))
    (cndO (decide (v3 ≥ (↑(joiner_Merge l r).length : Int)))
     (some (.ret, (l32_JoinerTurns_s25 l r more v3 v4)))
     (obO (0 ≤ v3 ∧ v3 < (↑(joiner_Merge l r).length : Int))
      (obO (0 ≤ v4 ∧ v4 < (↑(joiner_Nest (l ++ [more]) r).length : Int))
       (cndO (!andB [EK.int IntKind.i64] (((joiner_Merge l r).getD v3.toNat ((0 : Int), (0 : Int))).fst == ((joiner_Nest (l ++ [more]) r).getD v4.toNat ((0 : Int), (0 : Int))).fst) (andB [] (((joiner_Merge l r).getD v3.toNat ((0 : Int), (0 : Int))).snd == ((joiner_Nest (l ++ [more]) r).getD v4.toNat ((0 : Int), (0 : Int))).snd) true))
        (some (.ret, (l32_JoinerTurns_s25 l r more v3 v4)))
        (l32_JoinerTurns_L25 (l32_JoinerTurns_s25 l r more (IntKind.i64.wrap (v3 + 1)) (IntKind.i64.wrap (v4 + 1))))))))
    (l32_JoinerTurns_L25 (l32_JoinerTurns_s25 l r more v3 (IntKind.i64.wrap (v4 + 1))))))
  (some (.exit 4, (l32_JoinerTurns_s25 l r more v3 v4))) := (loopF_eq (N_l32_JoinerTurns 25) l32_JoinerTurns_B25 _).trans (by kernel_rfl)
theorem l32_JoinerTurns_a25_x4 (l : List (List Val)) (r : List (List Val)) (more : List Val) (v3 : Int) (v4 : Int) : l32_JoinerTurns_C25 (.exit 4) (l32_JoinerTurns_s25 l r more v3 v4) =
 cndO (v3 == (↑(joiner_Merge l r).length : Int))
  (some (R_l32_JoinerTurns (l32_awake)))
  (some (R_l32_JoinerTurns (false))) := by kernel_rfl
def l32_JoinerTurns (_l _r : List (List Val)) (_more : List Val) : Bool := true
theorem l32_JoinerTurns_spec (l r : List (List Val)) (more : List Val) (_hl : WL .row l) (_hr : WL .row r) (_hm : WL .val more) (h : l.length ≤ 40 → r.length ≤ 40 → keysOK l ∧ keysOK r) : l32_JoinerTurns_fn l r more = some (R_l32_JoinerTurns (l32_JoinerTurns l r more)) := by
  rw [l32_JoinerTurns_in]
  simp only [cndO_eq]
  by_cases hn : (l.length : Int) > 40
  · rw [if_pos (by simpa using hn)]; rfl
  by_cases hm : (r.length : Int) > 40
  · rw [if_neg (by simpa using hn), if_pos (by simpa using hm)]; rfl
  obtain ⟨hk1, hk2⟩ := h (by omega) (by omega)
  have hB : jBound l r := ⟨by omega, by omega⟩
  have hB2 : jBound r l := ⟨by omega, by omega⟩
  have hB3 : jBound (l ++ [more]) r := ⟨by rw [List.length_append, List.length_singleton]; omega, by omega⟩
  have hPl := jPairs_len hB
  have hQl := jPairs_len hB2
  have hCl := jPairs_len hB3
  have hsw := swap_len l r
  rw [if_neg (by simpa using hn), if_neg (by simpa using hm), obO_pos hB, obO_pos ⟨hB2, hk2, hk1⟩]
  have eM : joiner_Merge l r = jPairs l r := rfl
  rw [if_neg (by rw [eM, hsw]; simp)]
  obtain ⟨_, _, L1⟩ := loop_inv (L := l32_JoinerTurns_L7) (st := fun (_ : Unit) i => l32_JoinerTurns_s7 l r more i) (n := (jPairs l r).length) (by omega) (fun _ _ => True) (e := .exit 0)
    (fun _ i hi _ => by
      obtain ⟨x, hx⟩ : ∃ x, x = (jPairs l r).getD i ((0 : Int), (0 : Int)) := ⟨_, rfl⟩
      have hxm : x ∈ jPairs l r := by rw [hx, List.getD_eq_getElem?_getD, List.getElem?_eq_getElem hi]; exact List.getElem_mem _
      obtain ⟨a, b, ha, hb, hme, hxe⟩ := mem_jPairs.1 hxm
      have h1 : x.1 = (a : Int) := by rw [hxe]
      have h2 : x.2 = (b : Int) := by rw [hxe]
      have hcnt : l32_JoinerTurns_L16 (l32_JoinerTurns_s16 l r more (i : Int) (0 : Int) (0 : Int)) = some (.exit 2, l32_JoinerTurns_s16 l r more (i : Int) (1 : Int) ((jPairs r l).length : Int)) := by
        have hp : ∀ q : Int × Int, andB [EK.int IntKind.i64] (q.fst == x.2) (andB [] (q.snd == x.1) true) = decide (q = (x.2, x.1)) := fun q => by
          obtain ⟨q1, q2⟩ := q
          rw [Bool.eq_iff_iff, decide_eq_true_eq]
          simp [andB]
        obtain ⟨lp, _⟩ := loop_fold (e := .exit 2) (L := l32_JoinerTurns_L16) (st := fun (n : Int) k => l32_JoinerTurns_s16 l r more (i : Int) n k) (l := jPairs r l) (d := ((0 : Int), (0 : Int))) (g := fun n q => if decide (q = (x.2, x.1)) = true then n + 1 else n) (fun k n => 0 ≤ n ∧ n ≤ (k : Int)) (by omega)
          (fun n k q hk hq hI => by
            obtain ⟨hI1, hI2⟩ := hI
            refine ⟨by
              show 0 ≤ (if decide (q = (x.2, x.1)) = true then n + 1 else n) ∧ (if decide (q = (x.2, x.1)) = true then n + 1 else n) ≤ ((k + 1 : Nat) : Int)
              split <;> constructor <;> omega, ?_⟩
            rw [l32_JoinerTurns_l16]
            simp only [eM, ← hx, cndO_eq, Int.toNat_natCast, hq, hp]
            rw [if_pos (by simpa using hk), obO_pos (by omega)]
            split
            · rw [wrap_id (show -9223372036854775808 ≤ n + 1 ∧ n + 1 ≤ 9223372036854775807 by omega)]
            · rfl)
          (fun n _ => by
            rw [l32_JoinerTurns_l16]
            simp [cndO_eq]) (0 : Int) ⟨by omega, by omega⟩
        rw [fold_count (fun q : Int × Int => decide (q = (x.2, x.1))), count_one _ (x.2, x.1) (fun y => decide_eq_true_iff) _ (jPairs_nodup r l) (swap_mem.2 hxm)] at lp
        exact lp
      have hend : (l32_JoinerTurns_L16 (l32_JoinerTurns_s16 l r more (i : Int) (0 : Int) (0 : Int))).bind (thenX l32_JoinerTurns_C16) = l32_JoinerTurns_L7 (l32_JoinerTurns_s7 l r more (IntKind.i64.wrap ((i : Int) + 1))) := by
        rw [loop_end hcnt, l32_JoinerTurns_a16_x2, cndO_eq, if_neg (by simp)]
      have hord : value_Orders (l.getD a []) (r.getD b []) = 0 := by
        unfold value_Orders
        exact ordR_zero.2 (meetR_eq hme)
      refine ⟨(), trivial, ?_⟩
      rw [l32_JoinerTurns_l7]
      simp only [eM, Int.toNat_natCast, ← hx, h1, h2, cndO_eq, decide_eq_true_eq, hend]
      rw [if_pos (by omega), obO_pos (by omega), obO_pos (by omega), if_neg (by omega), if_neg (by omega), if_neg (by omega), if_neg (by omega), obO_pos (by omega), obO_pos (by omega), if_neg (by rw [hord]; simp)]
      by_cases hz : i = 0
      · rw [if_neg (by omega)]
      · obtain ⟨j, rfl⟩ : ∃ j, i = j + 1 := ⟨i - 1, by omega⟩
        have ew : IntKind.i64.wrap (((j + 1 : Nat) : Int) - 1) = (j : Int) := by rw [wrap_id (by omega)]; omega
        have hst := List.pairwise_iff_getElem.1 (jPairs_strict l r) j (j + 1) (by omega) hi (by omega)
        obtain ⟨y, hy⟩ : ∃ y, y = (jPairs l r).getD j ((0 : Int), (0 : Int)) := ⟨_, rfl⟩
        have hy2 : y = (jPairs l r)[j] := by rw [hy, List.getD_eq_getElem?_getD, List.getElem?_eq_getElem (by omega)]; rfl
        have hx2 : x = (jPairs l r)[j + 1] := by rw [hx, List.getD_eq_getElem?_getD, List.getElem?_eq_getElem hi]; rfl
        rw [← hy2, ← hx2, prC_neg, h1, h2] at hst
        rw [if_pos (by omega)]
        simp only [ew, Int.toNat_natCast, ← hy]
        rw [obO_pos (by omega), if_neg (by omega), obO_pos (by omega)]
        by_cases e : y.1 = (a : Int)
        · rw [if_pos (by rw [beq_iff_eq]; exact e), obO_pos (by omega), if_neg (by omega)]
        · rw [if_neg (by rw [beq_iff_eq]; exact e)])
    (fun _ _ => by
      rw [l32_JoinerTurns_l7]
      simp [eM, cndO_eq]) () trivial
  refine (loop_end L1).trans ?_
  rw [l32_JoinerTurns_a7_x0, obO_pos (by unfold roomB; omega), obO_pos (by unfold roomB; rw [List.length_singleton]; omega), obO_pos hB3]
  have eN : joiner_Nest (l ++ [more]) r = jPairs l r ++ jRow (l ++ [more]) r l.length := jPairs_more l r more
  have hCl2 : (jPairs l r ++ jRow (l ++ [more]) r l.length).length ≤ 1000000000000 := by rw [← jPairs_more]; exact hCl
  obtain ⟨n, hnv, L2⟩ := loop_inv (L := l32_JoinerTurns_L25) (st := fun (n : Int) i => l32_JoinerTurns_s25 l r more n i) (n := (jPairs l r ++ jRow (l ++ [more]) r l.length).length) (by omega) (fun i n => n = ((min i (jPairs l r).length : Nat) : Int)) (e := .exit 4)
    (fun n i hi hI => by
      rw [l32_JoinerTurns_l25]
      simp only [eN, eM, Int.toNat_natCast, cndO_eq, decide_eq_true_eq]
      rw [if_pos (by omega), obO_pos (by omega)]
      by_cases c : i < (jPairs l r).length
      · have e1 : (jPairs l r ++ jRow (l ++ [more]) r l.length).getD i ((0 : Int), (0 : Int)) = (jPairs l r).getD i ((0 : Int), (0 : Int)) := by
          rw [List.getD_eq_getElem?_getD, List.getElem?_append_left c, ← List.getD_eq_getElem?_getD]
        have hxm : (jPairs l r).getD i ((0 : Int), (0 : Int)) ∈ jPairs l r := by rw [List.getD_eq_getElem?_getD, List.getElem?_eq_getElem c]; exact List.getElem_mem _
        obtain ⟨a, b, ha, hb, _, hxe⟩ := mem_jPairs.1 hxm
        have hn2 : n = (i : Int) := by rw [hI]; omega
        refine ⟨((i + 1 : Nat) : Int), by omega, ?_⟩
        rw [e1, hxe, hn2]
        simp only [Int.toNat_natCast, hxe]
        rw [if_pos (by omega), if_neg (by omega), obO_pos (by omega), obO_pos (by omega), if_neg (by simp [andB]), wrap_id (show -9223372036854775808 ≤ (i : Int) + 1 ∧ (i : Int) + 1 ≤ 9223372036854775807 by omega)]
        congr 1
      · have e1 : (jPairs l r ++ jRow (l ++ [more]) r l.length).getD i ((0 : Int), (0 : Int)) ∈ jRow (l ++ [more]) r l.length := by
          rw [List.getD_eq_getElem?_getD, List.getElem?_append_right (by omega)]
          have : i - (jPairs l r).length < (jRow (l ++ [more]) r l.length).length := by rw [List.length_append] at hi; omega
          rw [List.getElem?_eq_getElem this]; exact List.getElem_mem _
        have h3 := jRow_fst e1
        refine ⟨n, by omega, ?_⟩
        rw [h3, if_neg (by omega)])
    (fun n _ => by
      rw [l32_JoinerTurns_l25]
      simp [eN, cndO_eq]) (0 : Int) (by simp)
  refine (loop_end L2).trans ?_
  rw [l32_JoinerTurns_a25_x4, cndO_eq, if_pos (by
    rw [hnv, eM, beq_iff_eq]
    have : (jPairs l r).length ≤ (jPairs l r ++ jRow (l ++ [more]) r l.length).length := by rw [List.length_append]; omega
    omega)]
  rfl
def F_l32_JoinerTurns : FnC Un := fun args => match args with
  | [x0, x1, x2] => (dL .row x0).bind fun l => (dL .row x1).bind fun r => (dL .val x2).bind fun more => some ([l.length ≤ 40 → r.length ≤ 40 → keysOK l ∧ keysOK r], A_l32_JoinerTurns (l32_JoinerTurns l r more), O_l32_JoinerTurns (l32_JoinerTurns l r more))
  | _ => none
theorem ok_l32_JoinerTurns : FnOK 5 F_l32_JoinerTurns := by
  intro args ob rs os h hob
  unfold F_l32_JoinerTurns at h
  split at h
  · simp only [Option.bind_eq_some_iff, Option.some.injEq, Prod.mk.injEq] at h
    obtain ⟨l, e0, r, e1, more, e2, rfl, rfl, rfl⟩ := h
    obtain rfl := dL_eq e0
    obtain rfl := dL_eq e1
    obtain rfl := dL_eq e2
    exact ⟨fn_contractF (M := M_l32_JoinerTurns) rfl (tbl_ok (l1 := [(6, F_l32_awake), (11, F_joiner_Merge), (10, F_joiner_Hash), (14, F_value_Orders), (9, F_joiner_Nest)]) (l2 := []) (l3 := []) (l4 := []) (l5 := []) ⟨ok_l32_awake, ok_joiner_Merge, ok_joiner_Hash, ok_value_Orders, ok_joiner_Nest, trivial⟩ trivial trivial trivial trivial) Tryd.func5 (by kernel_rfl) N_l32_JoinerTurns 2 [.d] (fun hwf => (l32_JoinerTurns_spec l r more (wfArg hwf (a := .d (.v (.dat (U := Un) Ty.row l))) (List.mem_of_getElem? (i := 0) rfl)) (wfArg hwf (a := .d (.v (.dat (U := Un) Ty.row r))) (List.mem_of_getElem? (i := 1) rfl)) (wfArg hwf (a := .d (.v (.dat (U := Un) Ty.val more))) (List.mem_of_getElem? (i := 2) rfl)) (hob _ (List.mem_of_getElem? (i := 0) rfl)))), hasBody_of Tryd.func5 (by kernel_rfl) (by kernel_rfl)⟩
  · simp at h
end
end Go.Proofs.YtcmfdbjdbbpomaaDoor.B
namespace Go.Proofs.YtcmfdbjdbbpomaaDoor.joinerTurnsUpto
open Go.ChangeShapes Go.WideShapes Go.ChangeAt Go.RowKit
open Go Go.Proofs.YtcmfdbjdbbpomaaDoor.B
set_option linter.unusedVariables false
theorem own : ownKnob Tryd.prog.godebug = none := by kernel_rfl
theorem laid_met (os : Os) : laidMet Tryd.prog Rows.joinerTurnsUptoRow.laid ((laidWorld os).forCall (fun _ _ => 0) ⟨#[], #[.slice none 0 0, .slice none 0 0, .slice none 0 0], []⟩).memory :=
  laidMet_of_run' 8 (by kernel_rfl) (by kernel_rfl)
theorem reads (os : Os) {H : Type} (enc : TypeId × Value → H) : ∃ places, DataW.whole enc Tryd.prog ((laidWorld os).forCall (fun _ _ => 0) ⟨#[], #[.slice none 0 0, .slice none 0 0, .slice none 0 0], []⟩).memory Tryd.f5.params.toList Rows.joinerTurnsSpec.vars false (#[.slice none 0 0, .slice none 0 0, .slice none 0 0] : Array Value).toList 12 = some ([.nil, .nil, .nil], [], places) :=
  ⟨[], by kernel_rfl⟩
set_option maxRecDepth 100000 in
theorem lifted (os : Os) (started : os.Started) (H : Type) (enc : TypeId × Value → H) (F : Stop.Interp) :
    ReturnsInHanded {} Tryd.checked os 5 .any ((Rows.OpenSpec.upto Rows.joinerTurnsSpec).preRow enc Tryd.prog Tryd.f5 Rows.joinerTurnsUptoRow.domain false Rows.joinerTurnsUptoRow.laid) (((Rows.OpenSpec.upto Rows.joinerTurnsSpec).at F).post enc Tryd.prog Tryd.f5 false true false false) := by
  obtain ⟨places, hx⟩ := reads os enc
  refine returnsInHanded_of_row (C := Tryd.checked) (s := Rows.OpenSpec.upto Rows.joinerTurnsSpec) own started (by kernel_rfl) Tryd.func5
    (witness_row_at (enc := enc) (C := Tryd.checked) false (laidWorld os) #[.slice none 0 0, .slice none 0 0, .slice none 0 0] rfl (by kernel_rfl) (by kernel_rfl) (by kernel_rfl)
      (OpenSpec.preRow_of_cond 12 hx (by kernel_rfl) (fun k hk => by cases hk; kernel_rfl) (by kernel_rfl) (laid_met os))) ?_
  intro W base args ds gs before hval0 hW _ hk0 _ hL _ _
  have hk := hk0 _ rfl
  have hval : ∀ (j : Nat) t v, Tryd.f5.params[j]? = some t → args[j]? = some v → Value.okWide Tryd.prog W .any base t v := hval0
  have hW2 := hW
  obtain ⟨p, q, hA0, hV, rfl, hfz, hnd⟩ := hW
  have hA : DataW.TrodAll enc Tryd.prog W 0 (fun _ => true) true Tryd.f5.params.toList args.toList ds p := hA0
  rw [Tryd.params5] at hA hval
  obtain ⟨v0, vs0, d0, ds0, p0, q0, hargs, rfl, rfl, h0, r0⟩ := trodAll_cons hA
  obtain ⟨v1, vs1, d1, ds1, p1, q1, rfl, rfl, rfl, h1, r1⟩ := trodAll_cons r0
  obtain ⟨v2, vs2, d2, ds2, p2, q2, rfl, rfl, rfl, h2, r2⟩ := trodAll_cons r1
  obtain ⟨rfl, rfl, rfl⟩ := trodAll_nil r2
  obtain rfl : args = #[v0, v1, v2] := by cases args; simp_all
  obtain ⟨rfl, rfl⟩ := trodVars_none hV
  obtain ⟨a0, w0, -, b0⟩ := arg_slU (tiL_sl (t := 22) (τ := .row) (by kernel_rfl)) (hval 0 22 v0 rfl rfl) h0
  obtain ⟨a1, w1, -, b1⟩ := arg_slU (tiL_sl (t := 22) (τ := .row) (by kernel_rfl)) (hval 1 22 v1 rfl rfl) h1
  obtain ⟨a2, w2, -, b2⟩ := arg_slU (tiL_sl (t := 35) (τ := .val) (by kernel_rfl)) (hval 2 35 v2 rfl rfl) h2
  have hsum : Rows.uptoBulkAll ([d0, d1, d2] ++ []) ≤ 1048576 := of_decide_eq_true hk
  simp only [List.append_nil, Rows.uptoBulkAll] at hsum
  clear hA0 hval0
  simp only [List.append_nil] at hW2
  have hc := law_calls ok_l32_JoinerTurns (args := [.d (.v (.dat (U := Un) Ty.row a0)), .d (.v (.dat (U := Un) Ty.row a1)), .d (.v (.dat (U := Un) Ty.val a2))]) (by
    unfold F_l32_JoinerTurns
    simp only [dL_mk]
    rfl) (by
    intro p hp
    simp only [List.mem_cons, List.not_mem_nil, or_false] at hp
    obtain ⟨e1, e2⟩ := bkKeys a0 _ b0 (VRel.wf w0) (by omega)
    obtain ⟨e3, e4⟩ := bkKeys a1 _ b1 (VRel.wf w1) (by omega)
    subst hp
    intro _ _
    exact ⟨fun r hr => ⟨by have := (e2 r hr).1; omega, by have := (e2 r hr).2; omega⟩, fun r hr => ⟨by have := (e4 r hr).1; omega, by have := (e4 r hr).2; omega⟩⟩) (w := W) (vs := [v0, v1, v2]) ⟨w0, w1, w2, trivial⟩ (laid_of hL)
  refine hc.mono fun e W3 ⟨he, hg⟩ => ?_
  subst he
  exact ⟨_, rfl, law_post (by kernel_rfl) (by kernel_rfl) (tb := 4) (by kernel_rfl) Tryd.underlying4 rfl (fun l hl => match l, hl with | [_, _, _], _ => ⟨rfl, rfl, rfl⟩) hW2 hg⟩
theorem over : Rows.joinerTurnsUptoRow.holds Tryd.pinned (Rows.OpenSpec.upto Rows.joinerTurnsSpec) :=
  OpenClaim.holds_of_cond 5 Tryd.f5 rfl rfl rfl rfl rfl rfl rfl ⟨rfl, rfl, rfl, rfl, rfl⟩ rfl rfl rfl rfl rfl (by kernel_rfl) Tryd.func5 (by kernel_rfl)
    (of_decide_eq_true (by kernel_rfl)) (by unfold Func.isWrapper; first | (rw [if_pos (by decide +kernel)]; kernel_rfl) | (rw [if_neg (by decide +kernel)]; exact ⟨rfl, rfl⟩))
    (fun os started H enc _ F => by rw [OpenClaim.pre_eq_preRow]; exact lifted os started H enc F)
theorem plain (f : FuncId) (fn : Func) (hf : Tryd.pinned.checked.prog.funcNamed "tabellion/tabellionlaw32.JoinerTurns" = some f) (hfn : Tryd.pinned.checked.prog.funcs[f]? = some fn) :
    false = Tryd.pinned.checked.prog.looks [] ∧ ∀ (j : Nat) t, fn.params[j]? = some t → Tryd.pinned.checked.prog.wantsStandIn t = false := by
  obtain rfl : f = 5 := Option.some.inj ((show Tryd.prog.funcNamed "tabellion/tabellionlaw32.JoinerTurns" = some 5 by kernel_rfl).symm.trans hf) |>.symm
  obtain rfl : fn = Tryd.f5 := (Option.some.inj (Tryd.func5.symm.trans hfn)).symm
  refine ⟨by kernel_rfl, fun j t ht => ?_⟩
  rw [Tryd.params5] at ht
  have hm := Array.mem_of_getElem? ht
  simp only [List.mem_toArray, List.mem_cons, List.not_mem_nil, or_false] at hm
  rcases hm with rfl | rfl | rfl
  · exact (show Tryd.prog.wantsStandIn 22 = false by kernel_rfl)
  · exact (show Tryd.prog.wantsStandIn 22 = false by kernel_rfl)
  · exact (show Tryd.prog.wantsStandIn 35 = false by kernel_rfl)
theorem proved : Rows.JoinerTurnsUptoCardSaid :=
  Claim7.holds_tied_plain_at .later [] _ _ _ _ over (fun _ h => by cases h) (by kernel_rfl) (fun _ h => by cases h) joinerTurnsUpto_row_tie rfl ⟨rfl, rfl⟩ (by kernel_rfl) rfl plain (by kernel_rfl)
end Go.Proofs.YtcmfdbjdbbpomaaDoor.joinerTurnsUpto
