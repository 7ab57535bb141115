/- Functions: law19. (Printed by wip/tools/mkfn.py out of wip/src/law19.src.) -/
import Derived.Test.YtpaelnkffpmfaaaBAwf
import Derived.Test.YtpaelnkffpmfaaaSspec
import Derived.Test.YtpaelnkffpmfaaaSref03
import Derived.Test.YtpaelnkffpmfaaaSaggspec
import Derived.Test.YtpaelnkffpmfaaaSagg1
import Derived.Test.YtpaelnkffpmfaaaSagg2
import Derived.Test.YtpaelnkffpmfaaaSref19
namespace Go.Proofs.Ytpaelnkffpmfaaa.B
open Go Go.RowKit
set_option maxRecDepth 100000
noncomputable section
attribute [local irreducible] awp ctxK itersK iterK retQ retGQ awf ctxF loopF

open Classical in
theorem eqV_eq (x y : Val) : andB [EK.int IntKind.i64, EK.str] (x.kind == y.kind) (andB [EK.str] (x.n == y.n) (andB [] (x.s.toList == y.s.toList) true)) = decide (x = y) := by
  show ((x.kind == y.kind) && ((x.n == y.n) && (x.s.toList == y.s.toList))) = _
  obtain ⟨a, b, c⟩ := x
  obtain ⟨a', b', c'⟩ := y
  by_cases h1 : a = a'
  · by_cases h2 : b = b'
    · have h3 := name_eq c c'
      cases h4 : (c.toList == c'.toList) with
      | true => have := h3.1 h4; simp [h1, h2, this]
      | false =>
        have : ¬ c = c' := fun e => by rw [h3.2 e] at h4; simp at h4
        simp [h1, h2, this]
    · simp [h1, h2]
  · simp [h1]
open Classical in
theorem eqV_zero (x : Val) : andB [EK.int IntKind.i64, EK.str] (x.kind == 0) (andB [EK.str] (x.n == 0) (andB [] (x.s.toList == (ByteArray.mk #[]).toList) true)) = decide (x = zeroVal) := eqV_eq x zeroVal

/-! ### tabellionlaw19.num -/
def M_l19_num : Mc Un := mach (tbl []) (tbl []) (tbl []) (tbl []) (tbl [])
def A_l19_num (r : Val) : List (A Un) := [.agg (encC Ty.val r)]
def O_l19_num (_r : Val) : List (Ob Un) := []
def R_l19_num (r : Val) : RF Un := (A_l19_num r, O_l19_num r)
def N_l19_num : Nat → NS := fun l => (look l []).getD ⟨[], [], [], [], []⟩
def l19_num_fn (n : Int) : Option (RF Un) := awf M_l19_num N_l19_num (bodyOf Try.f13) (entry Try.f13.ntmps 0 [.d (.v (.s (.int .i64 n)))]) (retF M_l19_num Try.f13.results.toList [.d])
theorem l19_num_in (n : Int) : l19_num_fn n =
 some (R_l19_num ({ kind := (2 : Int), n := n, s := (ByteArray.mk #[]) })) := by kernel_rfl
def l19_num (n : Int) : Val :=
  ({ kind := (2 : Int), n := n, s := (ByteArray.mk #[]) })
theorem l19_num_eq (n : Int) : l19_num_fn n = some (R_l19_num (l19_num n)) := by rw [l19_num_in]; unfold l19_num; simp only [cndO_eq]; repeat (first | rfl | split)

def F_l19_num : FnC Un := fun args => match args with
  | [x0] => (dI .i64 x0).bind fun n => some ([], A_l19_num (l19_num n), O_l19_num (l19_num n))
  | _ => none

theorem ok_l19_num : FnOK 13 F_l19_num := by
  intro args ob rs os h hob
  unfold F_l19_num at h
  split at h
  · simp only [Option.bind_eq_some_iff, Option.some.injEq, Prod.mk.injEq] at h
    obtain ⟨n, e0, rfl, rfl, rfl⟩ := h
    obtain rfl := dI_eq e0
    exact ⟨fn_contractF (M := M_l19_num) rfl (tbl_ok (l1 := []) (l2 := []) (l3 := []) (l4 := []) (l5 := []) trivial trivial trivial trivial trivial) Try.func13 (by kernel_rfl) N_l19_num 0 [.d] (fun hwf => (l19_num_eq n)), hasBody_of Try.func13 (by kernel_rfl) (by kernel_rfl)⟩
  · simp at h

@[simp] theorem l19_num_spec (n : Int) : l19_num n = numV n := rfl


/-! ### tabellionlaw19.gather -/
def M_l19_gather : Mc Un := mach (tbl [(15, F_agg_Start), (16, F_agg_Step)]) (tbl []) (tbl []) (tbl []) (tbl [])
def A_l19_gather (r : Acc) : List (A Un) := [.agg (encC Ty.acc r)]
def O_l19_gather (_r : Acc) : List (Ob Un) := []
def R_l19_gather (r : Acc) : RF Un := (A_l19_gather r, O_l19_gather r)
def N_l19_gather : Nat → NS := fun l => (look l [(3, { ts := bl 22 114, bs := bl 22 48, nm := [], gb := [5] })]).getD ⟨[], [], [], [], []⟩
def l19_gather_s3 (l : List Val) (b5 : Acc) (v0 : Int) : S Un := (st 22 22 88 0 [(1, al .val l), (4, ax 4), (5, ax 5), (6, ai v0)] [(4, some (false, [C.s (Value.string (ByteArray.mk #[])), C.s (Value.bool false), C.s (Value.int IntKind.i64 (0 : Int)), C.s (Value.int IntKind.i64 (0 : Int)), C.s (Value.int IntKind.i64 (0 : Int)), C.s (Value.int IntKind.i64 (0 : Int)), C.s (Value.int IntKind.i64 (0 : Int)), C.s (Value.string (ByteArray.mk #[])), C.sl Ty.val [] true])), (5, bg .acc b5)] [])
def l19_gather_B3 : Code := sub (bodyOf Try.f11) [1, 1, 0, 1, 2, 2]
def l19_gather_L3 : S Un → Option (EX Un) := loopF (N_l19_gather 3) (fun s Q => awf M_l19_gather N_l19_gather l19_gather_B3 s Q)
def l19_gather_C3 : Exit → S Un → Option (RF Un) := ctxF M_l19_gather N_l19_gather (bodyOf Try.f11) [1, 1, 0, 1, 2] (retF M_l19_gather Try.f11.results.toList [.d])
def l19_gather_fn (a : Agg) (l : List Val) : Option (RF Un) := awf M_l19_gather N_l19_gather (bodyOf Try.f11) (entry Try.f11.ntmps 0 [.d (.agg (enc Ty.agg a)), .d (.v (.dat (U := Un) Ty.val l))]) (retF M_l19_gather Try.f11.results.toList [.d])
theorem l19_gather_in (a : Agg) (l : List Val) : l19_gather_fn a l =
 (l19_gather_L3 (l19_gather_s3 l (agg_Start (Agg.ids a)) (0 : Int))).bind (thenX l19_gather_C3) := by kernel_rfl
theorem l19_gather_l3 (l : List Val) (b5 : Acc) (v0 : Int) : l19_gather_L3 (l19_gather_s3 l b5 v0) =
 cndO (decide (v0 < (↑l.length : Int)))
  (obO (0 ≤ v0 ∧ v0 < (↑l.length : Int))
   (obO (stepOK b5)
    (l19_gather_L3 (l19_gather_s3 l (agg_Step b5 (l.getD v0.toNat zeroVal)) (IntKind.i64.wrap (v0 + 1))))))
  (some (.exit 0, (l19_gather_s3 l b5 v0))) := (loopF_eq (N_l19_gather 3) l19_gather_B3 _).trans (by kernel_rfl)
theorem l19_gather_a3_x0 (l : List Val) (b5 : Acc) (v0 : Int) : l19_gather_C3 (.exit 0) (l19_gather_s3 l b5 v0) =
 some (R_l19_gather (b5)) := by kernel_rfl

def gathA (a : Agg) (l : List Val) : Acc := l.foldl stepA (startA a)
def l19_gather (a : Agg) (l : List Val) : Acc := gathA a l
@[simp] theorem l19_gather_eq (a : Agg) (l : List Val) : l19_gather a l = gathA a l := by unfold l19_gather; rfl
theorem gathA_ok (a : Agg) (l : List Val) : accV l.length (gathA a l) := by
  have := (accV.start a).steps l
  rw [Nat.zero_add] at this; exact this
theorem l19_gather_spec (a : Agg) (l : List Val) (_ha : WS .agg a) (_hl : WL .val l) (h : l.length ≤ 200000) : l19_gather_fn a l = some (R_l19_gather (l19_gather a l)) := by
  obtain ⟨hl, hI⟩ := loop_fold (e := .exit 0) (L := l19_gather_L3) (st := fun b i => l19_gather_s3 l b i) (l := l) (d := zeroVal) (g := stepA) (fun i b => accV i b) (by omega)
    (fun b i v hi hv hI => ⟨hI.step v, by
      rw [l19_gather_l3]
      simp only [cndO_eq, hi, decide_true, if_true, and_true, Int.toNat_natCast, hv, agg_Step_eq]
      rw [obO_pos (by omega), obO_pos (show stepOK b from hI.mono (by omega))]⟩)
    (fun b _ => by rw [l19_gather_l3]; simp [cndO_eq]) (startA a) (accV.start a)
  rw [l19_gather_in, Agg.ids_eq, agg_Start_spec, loop_end hl, l19_gather_a3_x0]
  unfold l19_gather gathA
  rfl

def F_l19_gather : FnC Un := fun args => match args with
  | [x0, x1] => (dS .agg x0).bind fun a => (dL .val x1).bind fun l => some ([l.length ≤ 200000], A_l19_gather (l19_gather a l), O_l19_gather (l19_gather a l))
  | _ => none

theorem ok_l19_gather : FnOK 11 F_l19_gather := by
  intro args ob rs os h hob
  unfold F_l19_gather at h
  split at h
  · simp only [Option.bind_eq_some_iff, Option.some.injEq, Prod.mk.injEq] at h
    obtain ⟨a, e0, l, e1, rfl, rfl, rfl⟩ := h
    obtain rfl := dS_eq e0
    obtain rfl := dL_eq e1
    exact ⟨fn_contractF (M := M_l19_gather) rfl (tbl_ok (l1 := [(15, F_agg_Start), (16, F_agg_Step)]) (l2 := []) (l3 := []) (l4 := []) (l5 := []) ⟨ok_agg_Start, ok_agg_Step, trivial⟩ trivial trivial trivial trivial) Try.func11 (by kernel_rfl) N_l19_gather 0 [.d] (fun hwf => (l19_gather_spec a l (wfArg hwf (a := .d (.agg (enc Ty.agg a))) (List.mem_of_getElem? (i := 0) rfl)) (wfArg hwf (a := .d (.v (.dat (U := Un) Ty.val l))) (List.mem_of_getElem? (i := 1) rfl)) (hob _ (List.mem_of_getElem? (i := 0) rfl)))), hasBody_of Try.func11 (by kernel_rfl) (by kernel_rfl)⟩
  · simp at h


/-! ### tabellionlaw19.awake -/
def M_l19_awake : Mc Un := mach (tbl [(13, F_l19_num), (15, F_agg_Start), (16, F_agg_Step), (9, F_agg_Run), (10, F_agg_Value), (12, F_agg_Merge)]) (tbl []) (tbl []) (tbl []) (tbl [])
def A_l19_awake (r : Bool) : List (A Un) := [.c (.s (.bool r))]
def O_l19_awake (_r : Bool) : List (Ob Un) := []
def R_l19_awake (r : Bool) : RF Un := (A_l19_awake r, O_l19_awake r)
def N_l19_awake : Nat → NS := fun l => (look l []).getD ⟨[], [], [], [], []⟩
def l19_awake_c1 := agg_Start (Agg.mk (ByteArray.mk #[99, 111, 117, 110, 116]) false [])
def l19_awake_c2 := agg_Run (Agg.mk (ByteArray.mk #[115, 117, 109]) false [zeroTerm]) []
def l19_awake_c3 := agg_Step { name := (l19_awake_c1).name, distinct := false, n := (0 : Int), hi := (0 : Int), lo := (0 : Int), v := { kind := (0 : Int), n := (0 : Int), s := (l19_awake_c1).v.s }, l := [] } zeroVal
def l19_awake_fn : Option (RF Un) := awf M_l19_awake N_l19_awake (bodyOf Try.f7) (entry Try.f7.ntmps 0 []) (retF M_l19_awake Try.f7.results.toList [.d])
theorem l19_awake_in : l19_awake_fn =
 obO (stepOK { name := (l19_awake_c1).name, distinct := false, n := (0 : Int), hi := (0 : Int), lo := (0 : Int), v := { kind := (0 : Int), n := (0 : Int), s := (l19_awake_c1).v.s }, l := [] })
  (obO (stepOK (l19_awake_c3))
   (obO ([(l19_num (1000000000000000 : Int)), (l19_num (1000000000000000 : Int)), zeroVal, (l19_num (-1000000000000000 : Int))].length ≤ (400000 : Nat))
    (cndO (andB [EK.int IntKind.i64, EK.str] ((agg_Run (Agg.mk (ByteArray.mk #[115, 117, 109]) false [zeroTerm]) [(l19_num (1000000000000000 : Int)), (l19_num (1000000000000000 : Int)), zeroVal, (l19_num (-1000000000000000 : Int))]).kind == (l19_num (1000000000000000 : Int)).kind) (andB [EK.str] ((agg_Run (Agg.mk (ByteArray.mk #[115, 117, 109]) false [zeroTerm]) [(l19_num (1000000000000000 : Int)), (l19_num (1000000000000000 : Int)), zeroVal, (l19_num (-1000000000000000 : Int))]).n == (l19_num (1000000000000000 : Int)).n) (andB [] ((agg_Run (Agg.mk (ByteArray.mk #[115, 117, 109]) false [zeroTerm]) [(l19_num (1000000000000000 : Int)), (l19_num (1000000000000000 : Int)), zeroVal, (l19_num (-1000000000000000 : Int))]).s.toList == (l19_num (1000000000000000 : Int)).s.toList) true)))
     (obO ((0 : Nat) ≤ (400000 : Nat))
      (cndO (andB [EK.int IntKind.i64, EK.str] ((l19_awake_c2).kind == 0) (andB [EK.str] ((l19_awake_c2).n == 0) (andB [] ((l19_awake_c2).s.toList == (ByteArray.mk #[]).toList) true)))
       (obO ((0 : Int) ≤ (2 : Int) ∧ (2 : Int) ≤ (↑[(l19_num (1000000000000000 : Int)), (l19_num (1000000000000000 : Int)), zeroVal, (l19_num (-1000000000000000 : Int))].length : Int))
        (obO ((List.take 2 [(l19_num (1000000000000000 : Int)), (l19_num (1000000000000000 : Int)), zeroVal, (l19_num (-1000000000000000 : Int))]).length ≤ (400000 : Nat))
         (cndO (andB [EK.int IntKind.i64, EK.str] ((agg_Run (Agg.mk (ByteArray.mk #[115, 117, 109]) false [zeroTerm]) (List.take 2 [(l19_num (1000000000000000 : Int)), (l19_num (1000000000000000 : Int)), zeroVal, (l19_num (-1000000000000000 : Int))])).kind == 0) (andB [EK.str] ((agg_Run (Agg.mk (ByteArray.mk #[115, 117, 109]) false [zeroTerm]) (List.take 2 [(l19_num (1000000000000000 : Int)), (l19_num (1000000000000000 : Int)), zeroVal, (l19_num (-1000000000000000 : Int))])).n == 0) (andB [] ((agg_Run (Agg.mk (ByteArray.mk #[115, 117, 109]) false [zeroTerm]) (List.take 2 [(l19_num (1000000000000000 : Int)), (l19_num (1000000000000000 : Int)), zeroVal, (l19_num (-1000000000000000 : Int))])).s.toList == (ByteArray.mk #[]).toList) true)))
          (obO (stepOK (agg_Step (l19_awake_c3) zeroVal))
           (cndO (andB [EK.int IntKind.i64, EK.str] ((agg_Value (agg_Step (l19_awake_c3) zeroVal)).kind == (l19_num (2 : Int)).kind) (andB [EK.str] ((agg_Value (agg_Step (l19_awake_c3) zeroVal)).n == (l19_num (2 : Int)).n) (andB [] ((agg_Value (agg_Step (l19_awake_c3) zeroVal)).s.toList == (l19_num (2 : Int)).s.toList) true)))
            (obO (mergeOK (agg_Step (l19_awake_c3) zeroVal) (agg_Step (l19_awake_c3) zeroVal))
             (obO (stepOK (agg_Merge (agg_Step (l19_awake_c3) zeroVal) (agg_Step (l19_awake_c3) zeroVal)))
              (cndO (andB [EK.int IntKind.i64, EK.str] ((agg_Value (agg_Merge (agg_Step (l19_awake_c3) zeroVal) (agg_Step (l19_awake_c3) zeroVal))).kind == (l19_num (4 : Int)).kind) (andB [EK.str] ((agg_Value (agg_Merge (agg_Step (l19_awake_c3) zeroVal) (agg_Step (l19_awake_c3) zeroVal))).n == (l19_num (4 : Int)).n) (andB [] ((agg_Value (agg_Merge (agg_Step (l19_awake_c3) zeroVal) (agg_Step (l19_awake_c3) zeroVal))).s.toList == (l19_num (4 : Int)).s.toList) true)))
               (obO ([(l19_num (1000000000000000 : Int)), (l19_num (1000000000000000 : Int)), zeroVal, (l19_num (-1000000000000000 : Int))].length ≤ (400000 : Nat))
                (some (R_l19_awake (andB [EK.int IntKind.i64, EK.str] ((agg_Run (Agg.mk (ByteArray.mk #[99, 111, 117, 110, 116]) false [zeroTerm]) [(l19_num (1000000000000000 : Int)), (l19_num (1000000000000000 : Int)), zeroVal, (l19_num (-1000000000000000 : Int))]).kind == (l19_num (3 : Int)).kind) (andB [EK.str] ((agg_Run (Agg.mk (ByteArray.mk #[99, 111, 117, 110, 116]) false [zeroTerm]) [(l19_num (1000000000000000 : Int)), (l19_num (1000000000000000 : Int)), zeroVal, (l19_num (-1000000000000000 : Int))]).n == (l19_num (3 : Int)).n) (andB [] ((agg_Run (Agg.mk (ByteArray.mk #[99, 111, 117, 110, 116]) false [zeroTerm]) [(l19_num (1000000000000000 : Int)), (l19_num (1000000000000000 : Int)), zeroVal, (l19_num (-1000000000000000 : Int))]).s.toList == (l19_num (3 : Int)).s.toList) true))))))
               (some (R_l19_awake (false))))))
            (some (R_l19_awake (false)))))
          (some (R_l19_awake (false))))))
       (some (R_l19_awake (false)))))
     (some (R_l19_awake (false)))))) := by kernel_rfl

def l19_awake : Bool := true
@[simp] theorem l19_awake_eq : l19_awake = true := by unfold l19_awake; rfl
theorem accV.merge {k k' : Nat} {x y : Acc} (h : accV k x) (h' : accV k' y) : accV (k + 2 * k' + 1) (mergeA x y) := by
  have hb : bigM = 1000000000000000 := rfl
  have hs := h.steps y.l
  have hyl := h'.2.1
  obtain ⟨⟨h1, h2, h3⟩, h4, h5, h6⟩ := hs
  obtain ⟨⟨k1, k2, k3⟩, _⟩ := h'
  unfold mergeA
  generalize List.foldl stepA x y.l = z at *
  have t1 := tdiv_one (n := z.lo + y.lo) (by omega) (by omega)
  exact ⟨⟨by constructor <;> simp only <;> omega, by constructor <;> simp only <;> omega, tmod_big _⟩, by simp only; omega, h5, h6⟩
def aggT (nm : ByteArray) (d : Bool) : Agg := Agg.mk nm d [zeroTerm]
theorem aggT_name (nm : ByteArray) (d : Bool) : (aggT nm d).name = nm ∧ (aggT nm d).distinct = d ∧ (aggT nm d).t = [zeroTerm] := ⟨rfl, rfl, rfl⟩
theorem runA_sum (d : Bool) (l : List Val) : runA (aggT nmSum d) l = tellV nmSum (cntd (aggT nmSum d) l) := by
  obtain ⟨e1, e2, e3, e4⟩ := start_named (a := aggT nmSum d) (.inl rfl)
  exact runA_named e1 e2 e3 e4 l
theorem runA_count (d : Bool) (l : List Val) : runA (aggT nmCount d) l = numV (cntd (aggT nmCount d) l).length := by
  obtain ⟨e1, e2, e3, e4⟩ := start_named (a := aggT nmCount d) (.inr (.inr (.inr ⟨rfl, by rw [(aggT_name _ _).2.2]; simp⟩)))
  rw [runA_named e1 e2 e3 e4 l]
  unfold tellV
  rw [(aggT_name _ _).1, if_pos (.inl rfl)]
theorem cntd_sum (l : List Val) : cntd (aggT nmSum false) l = l.filter (cntV nmSum) := by
  rw [cntd_eq (rowsA_not (a := aggT nmSum false) (Ne.symm nm_ne.1))]; rfl
theorem cntd_count (l : List Val) : cntd (aggT nmCount false) l = l.filter (cntV nmCount) := by
  rw [cntd_eq (by unfold rowsA; exact decide_eq_false (fun e => by have := e.2; rw [(aggT_name _ _).2.2] at this; simp at this))]; rfl
theorem tell_sum {c : List Val} (h : c ≠ []) : tellV nmSum c = totV (sumZ c) := by
  unfold tellV
  rw [if_neg (by rintro (e | e); exact nm_ne.1 e.symm; exact nm_ne.2.2.2.2.2.2.1 e), if_neg h, if_pos rfl]
theorem tell_nil : tellV nmSum [] = zeroVal := by
  unfold tellV
  rw [if_neg (by rintro (e | e); exact nm_ne.1 e.symm; exact nm_ne.2.2.2.2.2.2.1 e), if_pos rfl]
theorem totV_in {n : Int} (h : inN n = true) : totV n = numV n := by unfold totV; rw [if_pos h]
theorem totV_out {n : Int} (h : inN n = false) : totV n = zeroVal := by unfold totV; rw [if_neg (by rw [h]; simp)]
theorem cnt_num {nm : ByteArray} {n : Int} (h : inN n = true) : cntV nm (numV n) = true := by
  unfold cntV
  have : rightV (numV n) = true := by unfold rightV numV; rw [h]; rfl
  rw [this]; simp [numV]
theorem cnt_zero {nm : ByteArray} : cntV nm zeroVal = false := by unfold cntV; simp [zeroVal]
def RepA (a : Agg) (c : List Val) (x : Acc) : Prop := Rep (startA a).name (startA a).distinct c x ∧ ∀ v ∈ c, countsA (startA a).name v = true
theorem repA_run (a : Agg) (l : List Val) : RepA a (gotA a l) (gathA a l) := ⟨rep_run a l, gotA_counts a l⟩
theorem RepA.merge {a : Agg} {c c' : List Val} {x y : Acc} (h : RepA a c x) (h' : RepA a c' y) : RepA a (c ++ c') (mergeA x y) :=
  ⟨h.1.merge h'.1 h'.2, fun v hv => by rcases List.mem_append.1 hv with g | g; exact h.2 v g; exact h'.2 v g⟩
theorem RepA.value {a : Agg} {c : List Val} {x : Acc} (h : RepA a c x) : valueA x = tellA a c := Rep.value h.1 h.2
theorem gotA_append (a : Agg) (l r : List Val) : gotA a (l ++ r) = gotA a l ++ gotA a r := by unfold gotA; exact List.filter_append ..
theorem gath_step (a : Agg) (l : List Val) (v : Val) : stepA (gathA a l) v = gathA a (l ++ [v]) := by unfold gathA; rw [List.foldl_append]; rfl
theorem l19_awake_spec : l19_awake_fn = some (R_l19_awake (l19_awake)) := by
  have i1 : inN 1000000000000000 = true := by decide
  have i2 : inN (-1000000000000000) = true := by decide
  have c1 : cntV nmSum (numV 1000000000000000) = true := cnt_num i1
  have c2 : cntV nmSum (numV (-1000000000000000)) = true := cnt_num i2
  have c3 : cntV nmCount (numV 1000000000000000) = true := cnt_num i1
  have c4 : cntV nmCount (numV (-1000000000000000)) = true := cnt_num i2
  have r1 : runA (Agg.mk nmSum false [zeroTerm]) [numV 1000000000000000, numV 1000000000000000, zeroVal, numV (-1000000000000000)] = numV 1000000000000000 := by
    have := runA_sum false [numV 1000000000000000, numV 1000000000000000, zeroVal, numV (-1000000000000000)]
    refine this.trans ?_
    rw [cntd_sum, List.filter_cons_of_pos c1, List.filter_cons_of_pos c1, List.filter_cons_of_neg (by rw [cnt_zero]; simp), List.filter_cons_of_pos c2, List.filter_nil, tell_sum (by simp), show sumZ [numV 1000000000000000, numV 1000000000000000, numV (-1000000000000000)] = 1000000000000000 from rfl, totV_in i1]
  have r2 : runA (Agg.mk nmSum false [zeroTerm]) [] = zeroVal := by
    refine (runA_sum false []).trans ?_
    rw [cntd_sum, List.filter_nil, tell_nil]
  have r3 : runA (Agg.mk nmSum false [zeroTerm]) [numV 1000000000000000, numV 1000000000000000] = zeroVal := by
    refine (runA_sum false _).trans ?_
    rw [cntd_sum, List.filter_cons_of_pos c1, List.filter_cons_of_pos c1, List.filter_nil, tell_sum (by simp), show sumZ [numV 1000000000000000, numV 1000000000000000] = 2000000000000000 from rfl, totV_out (by decide)]
  have r4 : runA (Agg.mk nmCount false [zeroTerm]) [numV 1000000000000000, numV 1000000000000000, zeroVal, numV (-1000000000000000)] = numV 3 := by
    refine (runA_count false _).trans ?_
    rw [cntd_count, List.filter_cons_of_pos c3, List.filter_cons_of_pos c3, List.filter_cons_of_neg (by rw [cnt_zero]; simp), List.filter_cons_of_pos c4, List.filter_nil]
    rfl
  have q1 : agg_Start (Agg.mk nmCount false []) = gathA (Agg.mk nmCount false []) [] := agg_Start_spec _
  have q2 : gathA (Agg.mk nmCount false []) [] = ⟨nmRows, false, 0, 0, 0, zeroVal, []⟩ := by
    unfold gathA
    rw [List.foldl_nil]
    unfold startA; rw [if_pos (show (Agg.mk nmCount false []).name = nmCount from rfl), if_pos (show (Agg.mk nmCount false []).t = [] from rfl)]
  have q3 : ({ name := (gathA (Agg.mk nmCount false []) []).name, distinct := false, n := (0 : Int), hi := (0 : Int), lo := (0 : Int), v := { kind := (0 : Int), n := (0 : Int), s := (gathA (Agg.mk nmCount false []) []).v.s }, l := [] } : Acc) = gathA (Agg.mk nmCount false []) [] := by
    rw [q2]; rfl
  have g1 : stepA (gathA (Agg.mk nmCount false []) [zeroVal]) zeroVal = gathA (Agg.mk nmCount false []) [zeroVal, zeroVal] := by rw [gath_step]; rfl
  have g0 : stepA (gathA (Agg.mk nmCount false []) []) zeroVal = gathA (Agg.mk nmCount false []) [zeroVal] := by rw [gath_step]; rfl
  have k1 := gathA_ok (Agg.mk nmCount false []) [zeroVal, zeroVal]
  have v1 : valueA (gathA (Agg.mk nmCount false []) [zeroVal, zeroVal]) = numV 2 := start_rows (a := Agg.mk nmCount false []) rfl rfl _
  have v2 : valueA (mergeA (gathA (Agg.mk nmCount false []) [zeroVal, zeroVal]) (gathA (Agg.mk nmCount false []) [zeroVal, zeroVal])) = numV 4 := by
    rw [((repA_run (Agg.mk nmCount false []) [zeroVal, zeroVal]).merge (repA_run (Agg.mk nmCount false []) [zeroVal, zeroVal])).value, ← gotA_append, ← runA_eq]
    exact start_rows (a := Agg.mk nmCount false []) rfl rfl _
  rw [l19_awake_in]
  simp only [l19_awake_c1, l19_awake_c2, l19_awake_c3, nm_count, nm_sum, q1, q3, agg_Step_eq, agg_Run_eq, agg_Value_eq, agg_Merge_eq, l19_num_spec, eqV_zero, eqV_eq, List.take_succ_cons, List.take_zero, r1, r2, r3, r4, g0, g1, v1, v2, cndO_eq, decide_true, if_true]
  rw [obO_pos (show stepOK _ from (gathA_ok _ _).mono (by simp)), obO_pos (show stepOK _ from (gathA_ok _ _).mono (by simp)), obO_pos (by simp), obO_pos (by simp), obO_pos (by simp), obO_pos (by simp), obO_pos (show stepOK _ from (gathA_ok _ _).mono (by simp)),
    obO_pos (show mergeOK _ _ from ⟨(gathA_ok _ _).mono (by simp), (gathA_ok _ _).mono (by simp)⟩), obO_pos (show stepOK _ from ((gathA_ok _ _).merge (gathA_ok _ _)).mono (by simp)), obO_pos (by simp)]
  rfl

def F_l19_awake : FnC Un := fun args => match args with
  | [] => some ([], A_l19_awake (l19_awake), O_l19_awake (l19_awake))
  | _ => none

theorem ok_l19_awake : FnOK 7 F_l19_awake := by
  intro args ob rs os h hob
  unfold F_l19_awake at h
  split at h
  · simp only [Option.bind_eq_some_iff, Option.some.injEq, Prod.mk.injEq] at h
    obtain ⟨rfl, rfl, rfl⟩ := h
    exact ⟨fn_contractF (M := M_l19_awake) rfl (tbl_ok (l1 := [(13, F_l19_num), (15, F_agg_Start), (16, F_agg_Step), (9, F_agg_Run), (10, F_agg_Value), (12, F_agg_Merge)]) (l2 := []) (l3 := []) (l4 := []) (l5 := []) ⟨ok_l19_num, ok_agg_Start, ok_agg_Step, ok_agg_Run, ok_agg_Value, ok_agg_Merge, trivial⟩ trivial trivial trivial trivial) Try.func7 (by kernel_rfl) N_l19_awake 0 [.d] (fun hwf => (l19_awake_spec)), hasBody_of Try.func7 (by kernel_rfl) (by kernel_rfl)⟩
  · simp at h


/-! ### tabellionlaw19.AggRuns -/
def M_l19_AggRuns : Mc Un := mach (tbl [(7, F_l19_awake), (8, F_r19_Run), (9, F_agg_Run), (11, F_l19_gather), (10, F_agg_Value)]) (tbl []) (tbl []) (tbl []) (tbl [])
def A_l19_AggRuns (r : Bool) : List (A Un) := [.c (.s (.bool r))]
def O_l19_AggRuns (_r : Bool) : List (Ob Un) := []
def R_l19_AggRuns (r : Bool) : RF Un := (A_l19_AggRuns r, O_l19_AggRuns r)
def N_l19_AggRuns : Nat → NS := fun l => (look l []).getD ⟨[], [], [], [], []⟩
def l19_AggRuns_fn (a : Agg) (l : List Val) : Option (RF Un) := awf M_l19_AggRuns N_l19_AggRuns (bodyOf Try.f3) (entry Try.f3.ntmps 0 [.d (.agg (enc Ty.agg a)), .d (.v (.dat (U := Un) Ty.val l))]) (retF M_l19_AggRuns Try.f3.results.toList [.d])
theorem l19_AggRuns_in (a : Agg) (l : List Val) : l19_AggRuns_fn a l =
 cndO (decide ((↑l.length : Int) > (100 : Int)))
  (some (R_l19_AggRuns (l19_awake)))
  (obO (l.length ≤ (1000000 : Nat))
   (cndO (l19_awake)
    (obO (l.length ≤ (400000 : Nat))
     (cndO (andB [EK.int IntKind.i64, EK.str] ((agg_Run (Agg.ids a) l).kind == (r19_Run (Agg.ids a) l).kind) (andB [EK.str] ((agg_Run (Agg.ids a) l).n == (r19_Run (Agg.ids a) l).n) (andB [] ((agg_Run (Agg.ids a) l).s.toList == (r19_Run (Agg.ids a) l).s.toList) true)))
      (obO (l.length ≤ (200000 : Nat))
       (obO (stepOK (l19_gather (Agg.ids a) l))
        (some (R_l19_AggRuns (andB [EK.int IntKind.i64, EK.str] ((agg_Value (l19_gather (Agg.ids a) l)).kind == (r19_Run (Agg.ids a) l).kind) (andB [EK.str] ((agg_Value (l19_gather (Agg.ids a) l)).n == (r19_Run (Agg.ids a) l).n) (andB [] ((agg_Value (l19_gather (Agg.ids a) l)).s.toList == (r19_Run (Agg.ids a) l).s.toList) true)))))))
      (some (R_l19_AggRuns (false)))))
    (some (R_l19_AggRuns (false))))) := by kernel_rfl

def l19_AggRuns (_a : Agg) (_l : List Val) : Bool := true
open Classical in
theorem l19_AggRuns_spec (a : Agg) (l : List Val) (_ha : WS .agg a) (_hl : WL .val l) : l19_AggRuns_fn a l = some (R_l19_AggRuns (l19_AggRuns a l)) := by
  rw [l19_AggRuns_in]
  unfold l19_AggRuns
  simp only [cndO_eq, Agg.ids_eq, l19_awake_eq, agg_Run_eq, r19_Run_eq, eqV_eq, agg_Value_eq, l19_gather_eq, decide_eq_true_eq, if_true]
  by_cases h : (l.length : Int) > 100
  · rw [if_pos h]
  · rw [if_neg h, obO_pos (by omega), obO_pos (by omega), obO_pos (by omega), obO_pos (show stepOK _ from (gathA_ok a l).mono (by omega))]
    have : valueA (gathA a l) = runA a l := rfl
    rw [this, decide_eq_true rfl]

def F_l19_AggRuns : FnC Un := fun args => match args with
  | [x0, x1] => (dS .agg x0).bind fun a => (dL .val x1).bind fun l => some ([], A_l19_AggRuns (l19_AggRuns a l), O_l19_AggRuns (l19_AggRuns a l))
  | _ => none

theorem ok_l19_AggRuns : FnOK 3 F_l19_AggRuns := by
  intro args ob rs os h hob
  unfold F_l19_AggRuns at h
  split at h
  · simp only [Option.bind_eq_some_iff, Option.some.injEq, Prod.mk.injEq] at h
    obtain ⟨a, e0, l, e1, rfl, rfl, rfl⟩ := h
    obtain rfl := dS_eq e0
    obtain rfl := dL_eq e1
    exact ⟨fn_contractF (M := M_l19_AggRuns) rfl (tbl_ok (l1 := [(7, F_l19_awake), (8, F_r19_Run), (9, F_agg_Run), (11, F_l19_gather), (10, F_agg_Value)]) (l2 := []) (l3 := []) (l4 := []) (l5 := []) ⟨ok_l19_awake, ok_r19_Run, ok_agg_Run, ok_l19_gather, ok_agg_Value, trivial⟩ trivial trivial trivial trivial) Try.func3 (by kernel_rfl) N_l19_AggRuns 0 [.d] (fun hwf => (l19_AggRuns_spec a l (wfArg hwf (a := .d (.agg (enc Ty.agg a))) (List.mem_of_getElem? (i := 0) rfl)) (wfArg hwf (a := .d (.v (.dat (U := Un) Ty.val l))) (List.mem_of_getElem? (i := 1) rfl)))), hasBody_of Try.func3 (by kernel_rfl) (by kernel_rfl)⟩
  · simp at h


/-! ### tabellionlaw19.AggParts -/
def M_l19_AggParts : Mc Un := mach (tbl [(7, F_l19_awake), (11, F_l19_gather), (9, F_agg_Run), (12, F_agg_Merge), (10, F_agg_Value)]) (tbl []) (tbl []) (tbl []) (tbl [])
def A_l19_AggParts (r : Bool) : List (A Un) := [.c (.s (.bool r))]
def O_l19_AggParts (_r : Bool) : List (Ob Un) := []
def R_l19_AggParts (r : Bool) : RF Un := (A_l19_AggParts r, O_l19_AggParts r)
def N_l19_AggParts : Nat → NS := fun l => (look l []).getD ⟨[], [], [], [], []⟩
def l19_AggParts_c1 (a : Agg) (l : List Val) (at_0 : Int) (at_1 : Int) := l19_gather (Agg.mk a.name a.distinct a.t) (List.take (List.foldl (fun a b => if b < a then b else a) ((IntKind.i64.wrap at_0).tmod (IntKind.i64.wrap ((↑l.length : Int) + (1 : Int)))) [(IntKind.i64.wrap at_1).tmod (IntKind.i64.wrap ((↑l.length : Int) + (1 : Int)))]).toNat l)
def l19_AggParts_c2 (a : Agg) (l : List Val) (at_0 : Int) (at_1 : Int) := l19_gather (Agg.mk a.name a.distinct a.t) (List.drop (List.foldl (fun a b => if b < a then b else a) ((IntKind.i64.wrap at_0).tmod (IntKind.i64.wrap ((↑l.length : Int) + (1 : Int)))) [(IntKind.i64.wrap at_1).tmod (IntKind.i64.wrap ((↑l.length : Int) + (1 : Int)))]).toNat (List.take (List.foldl (fun a b => if a < b then b else a) ((IntKind.i64.wrap at_0).tmod (IntKind.i64.wrap ((↑l.length : Int) + (1 : Int)))) [(IntKind.i64.wrap at_1).tmod (IntKind.i64.wrap ((↑l.length : Int) + (1 : Int)))]).toNat l))
def l19_AggParts_c3 (a : Agg) (l : List Val) (at_0 : Int) (at_1 : Int) := l19_gather (Agg.mk a.name a.distinct a.t) (List.drop (List.foldl (fun a b => if a < b then b else a) ((IntKind.i64.wrap at_0).tmod (IntKind.i64.wrap ((↑l.length : Int) + (1 : Int)))) [(IntKind.i64.wrap at_1).tmod (IntKind.i64.wrap ((↑l.length : Int) + (1 : Int)))]).toNat l)
def l19_AggParts_c4 (a : Agg) (l : List Val) (at_0 : Int) (at_1 : Int) := agg_Merge (l19_AggParts_c1 a l at_0 at_1) (l19_AggParts_c2 a l at_0 at_1)
def l19_AggParts_c5 (a : Agg) (l : List Val) (at_0 : Int) (at_1 : Int) := agg_Merge (l19_AggParts_c2 a l at_0 at_1) (l19_AggParts_c3 a l at_0 at_1)
def l19_AggParts_c6 (a : Agg) (l : List Val) (at_0 : Int) (at_1 : Int) := agg_Merge (l19_AggParts_c3 a l at_0 at_1) (l19_AggParts_c1 a l at_0 at_1)
def l19_AggParts_c7 (a : Agg) (l : List Val) (at_0 : Int) (at_1 : Int) := agg_Merge (l19_AggParts_c4 a l at_0 at_1) (l19_AggParts_c3 a l at_0 at_1)
def l19_AggParts_c8 (a : Agg) (l : List Val) (at_0 : Int) (at_1 : Int) := agg_Merge (l19_AggParts_c1 a l at_0 at_1) (l19_AggParts_c5 a l at_0 at_1)
def l19_AggParts_c9 (a : Agg) (l : List Val) (at_0 : Int) (at_1 : Int) := agg_Merge (l19_AggParts_c6 a l at_0 at_1) (l19_AggParts_c2 a l at_0 at_1)
def l19_AggParts_fn (a : Agg) (l : List Val) (at_0 : Int) (at_1 : Int) : Option (RF Un) := awf M_l19_AggParts N_l19_AggParts (bodyOf Try.f4) (entry Try.f4.ntmps 0 [.d (.agg (enc Ty.agg a)), .d (.v (.dat (U := Un) Ty.val l)), .d (.agg [.s (.int .u8 at_0), .s (.int .u8 at_1)])]) (retF M_l19_AggParts Try.f4.results.toList [.d])
theorem l19_AggParts_in (a : Agg) (l : List Val) (at_0 : Int) (at_1 : Int) : l19_AggParts_fn a l at_0 at_1 =
 cndO (decide ((↑l.length : Int) > (60 : Int)))
  (some (R_l19_AggParts (l19_awake)))
  (obO (¬IntKind.i64.wrap ((↑l.length : Int) + (1 : Int)) = 0)
   (obO (¬IntKind.i64.wrap ((↑l.length : Int) + (1 : Int)) = 0)
    (obO (0 ≤ List.foldl (fun a b => if b < a then b else a) ((IntKind.i64.wrap at_0).tmod (IntKind.i64.wrap ((↑l.length : Int) + (1 : Int)))) [(IntKind.i64.wrap at_1).tmod (IntKind.i64.wrap ((↑l.length : Int) + (1 : Int)))] ∧ List.foldl (fun a b => if b < a then b else a) ((IntKind.i64.wrap at_0).tmod (IntKind.i64.wrap ((↑l.length : Int) + (1 : Int)))) [(IntKind.i64.wrap at_1).tmod (IntKind.i64.wrap ((↑l.length : Int) + (1 : Int)))] ≤ (↑l.length : Int))
     (obO ((List.take (List.foldl (fun a b => if b < a then b else a) ((IntKind.i64.wrap at_0).tmod (IntKind.i64.wrap ((↑l.length : Int) + (1 : Int)))) [(IntKind.i64.wrap at_1).tmod (IntKind.i64.wrap ((↑l.length : Int) + (1 : Int)))]).toNat l).length ≤ (200000 : Nat))
      (obO (0 ≤ List.foldl (fun a b => if b < a then b else a) ((IntKind.i64.wrap at_0).tmod (IntKind.i64.wrap ((↑l.length : Int) + (1 : Int)))) [(IntKind.i64.wrap at_1).tmod (IntKind.i64.wrap ((↑l.length : Int) + (1 : Int)))] ∧ List.foldl (fun a b => if b < a then b else a) ((IntKind.i64.wrap at_0).tmod (IntKind.i64.wrap ((↑l.length : Int) + (1 : Int)))) [(IntKind.i64.wrap at_1).tmod (IntKind.i64.wrap ((↑l.length : Int) + (1 : Int)))] ≤ List.foldl (fun a b => if a < b then b else a) ((IntKind.i64.wrap at_0).tmod (IntKind.i64.wrap ((↑l.length : Int) + (1 : Int)))) [(IntKind.i64.wrap at_1).tmod (IntKind.i64.wrap ((↑l.length : Int) + (1 : Int)))] ∧ List.foldl (fun a b => if a < b then b else a) ((IntKind.i64.wrap at_0).tmod (IntKind.i64.wrap ((↑l.length : Int) + (1 : Int)))) [(IntKind.i64.wrap at_1).tmod (IntKind.i64.wrap ((↑l.length : Int) + (1 : Int)))] ≤ (↑l.length : Int))
       (obO ((List.drop (List.foldl (fun a b => if b < a then b else a) ((IntKind.i64.wrap at_0).tmod (IntKind.i64.wrap ((↑l.length : Int) + (1 : Int)))) [(IntKind.i64.wrap at_1).tmod (IntKind.i64.wrap ((↑l.length : Int) + (1 : Int)))]).toNat (List.take (List.foldl (fun a b => if a < b then b else a) ((IntKind.i64.wrap at_0).tmod (IntKind.i64.wrap ((↑l.length : Int) + (1 : Int)))) [(IntKind.i64.wrap at_1).tmod (IntKind.i64.wrap ((↑l.length : Int) + (1 : Int)))]).toNat l)).length ≤ (200000 : Nat))
        (obO (0 ≤ List.foldl (fun a b => if a < b then b else a) ((IntKind.i64.wrap at_0).tmod (IntKind.i64.wrap ((↑l.length : Int) + (1 : Int)))) [(IntKind.i64.wrap at_1).tmod (IntKind.i64.wrap ((↑l.length : Int) + (1 : Int)))] ∧ List.foldl (fun a b => if a < b then b else a) ((IntKind.i64.wrap at_0).tmod (IntKind.i64.wrap ((↑l.length : Int) + (1 : Int)))) [(IntKind.i64.wrap at_1).tmod (IntKind.i64.wrap ((↑l.length : Int) + (1 : Int)))] ≤ (↑l.length : Int))
         (obO ((List.drop (List.foldl (fun a b => if a < b then b else a) ((IntKind.i64.wrap at_0).tmod (IntKind.i64.wrap ((↑l.length : Int) + (1 : Int)))) [(IntKind.i64.wrap at_1).tmod (IntKind.i64.wrap ((↑l.length : Int) + (1 : Int)))]).toNat l).length ≤ (200000 : Nat))
          (obO (l.length ≤ (400000 : Nat))
           (cndO (l19_awake)
            (obO (mergeOK (l19_AggParts_c1 a l at_0 at_1) (l19_AggParts_c2 a l at_0 at_1))
             (obO (mergeOK (l19_AggParts_c4 a l at_0 at_1) (l19_AggParts_c3 a l at_0 at_1))
              (obO (stepOK (l19_AggParts_c7 a l at_0 at_1))
               (cndO (andB [EK.int IntKind.i64, EK.str] ((agg_Value (l19_AggParts_c7 a l at_0 at_1)).kind == (agg_Run (Agg.ids a) l).kind) (andB [EK.str] ((agg_Value (l19_AggParts_c7 a l at_0 at_1)).n == (agg_Run (Agg.ids a) l).n) (andB [] ((agg_Value (l19_AggParts_c7 a l at_0 at_1)).s.toList == (agg_Run (Agg.ids a) l).s.toList) true)))
                (obO (mergeOK (l19_AggParts_c2 a l at_0 at_1) (l19_AggParts_c3 a l at_0 at_1))
                 (obO (mergeOK (l19_AggParts_c1 a l at_0 at_1) (l19_AggParts_c5 a l at_0 at_1))
                  (obO (stepOK (l19_AggParts_c8 a l at_0 at_1))
                   (cndO (andB [EK.int IntKind.i64, EK.str] ((agg_Value (l19_AggParts_c8 a l at_0 at_1)).kind == (agg_Run (Agg.ids a) l).kind) (andB [EK.str] ((agg_Value (l19_AggParts_c8 a l at_0 at_1)).n == (agg_Run (Agg.ids a) l).n) (andB [] ((agg_Value (l19_AggParts_c8 a l at_0 at_1)).s.toList == (agg_Run (Agg.ids a) l).s.toList) true)))
                    (obO (mergeOK (l19_AggParts_c3 a l at_0 at_1) (l19_AggParts_c1 a l at_0 at_1))
                     (obO (mergeOK (l19_AggParts_c6 a l at_0 at_1) (l19_AggParts_c2 a l at_0 at_1))
                      (obO (stepOK (l19_AggParts_c9 a l at_0 at_1))
                       (some (R_l19_AggParts (andB [EK.int IntKind.i64, EK.str] ((agg_Value (l19_AggParts_c9 a l at_0 at_1)).kind == (agg_Run (Agg.ids a) l).kind) (andB [EK.str] ((agg_Value (l19_AggParts_c9 a l at_0 at_1)).n == (agg_Run (Agg.ids a) l).n) (andB [] ((agg_Value (l19_AggParts_c9 a l at_0 at_1)).s.toList == (agg_Run (Agg.ids a) l).s.toList) true))))))))
                    (some (R_l19_AggParts (false)))))))
                (some (R_l19_AggParts (false)))))))
            (some (R_l19_AggParts (false))))))))))))) := by kernel_rfl

def l19_AggParts (_a : Agg) (_l : List Val) (_x _y : Int) : Bool := true
theorem u8_mod {x n : Int} (h : WK .u8 x) (hn : 0 ≤ n ∧ n ≤ 1000) : ∃ p : Nat, (IntKind.i64.wrap x).tmod (IntKind.i64.wrap (n + 1)) = p ∧ (p : Int) ≤ n := by
  have h1 : 0 ≤ x ∧ x ≤ 255 := h
  rw [wrap_id (n := x) (by omega), wrap_id (n := n + 1) (by omega), Int.tmod_eq_emod_of_nonneg h1.1]
  have h2 := Int.emod_nonneg x (show n + 1 ≠ 0 by omega)
  have h3 := Int.emod_lt_of_pos x (show 0 < n + 1 by omega)
  exact ⟨(x % (n + 1)).toNat, by omega, by omega⟩
theorem minN (p q : Nat) : List.foldl (fun a b => if b < a then b else a) (p : Int) [(q : Int)] = ((min p q : Nat) : Int) := by
  simp only [List.foldl_cons, List.foldl_nil]; split <;> omega
theorem maxN (p q : Nat) : List.foldl (fun a b => if a < b then b else a) (p : Int) [(q : Int)] = ((max p q : Nat) : Int) := by
  simp only [List.foldl_cons, List.foldl_nil]; split <;> omega
open Classical in
theorem l19_AggParts_spec (a : Agg) (l : List Val) (at_0 at_1 : Int) (_ha : WS .agg a) (_hl : WL .val l) (h0 : WK .u8 at_0) (h1 : WK .u8 at_1) : l19_AggParts_fn a l at_0 at_1 = some (R_l19_AggParts (l19_AggParts a l at_0 at_1)) := by
  rw [l19_AggParts_in]
  unfold l19_AggParts
  by_cases h : (l.length : Int) > 60
  · rw [cndO_eq, if_pos (by simpa using h), l19_awake_eq]
  · obtain ⟨p, hp, hpl⟩ := u8_mod (n := l.length) h0 (by omega)
    obtain ⟨q, hq, hql⟩ := u8_mod (n := l.length) h1 (by omega)
    have hw : ¬ IntKind.i64.wrap ((l.length : Int) + 1) = 0 := by rw [wrap_id (by omega)]; omega
    obtain ⟨i, hi⟩ : ∃ i, i = min p q := ⟨_, rfl⟩
    obtain ⟨k, hk⟩ : ∃ k, k = max p q := ⟨_, rfl⟩
    have hik : i ≤ k ∧ k ≤ l.length := by omega
    have t1 : (l.take i).length ≤ 60 := by rw [List.length_take]; omega
    have t2 : ((l.take k).drop i).length ≤ 60 := by rw [List.length_drop, List.length_take]; omega
    have t3 : (l.drop k).length ≤ 60 := by rw [List.length_drop]; omega
    have a1 := (gathA_ok a (l.take i)).mono t1
    have a2 := (gathA_ok a ((l.take k).drop i)).mono t2
    have a3 := (gathA_ok a (l.drop k)).mono t3
    have r1 := repA_run a (l.take i)
    have r2 := repA_run a ((l.take k).drop i)
    have r3 := repA_run a (l.drop k)
    have hsplit : l.take i ++ (l.take k).drop i ++ l.drop k = l := by
      have : (l.take k).take i = l.take i := by rw [List.take_take]; congr 1; omega
      rw [← this, List.take_append_drop, List.take_append_drop]
    have hgot : gotA a (l.take i) ++ gotA a ((l.take k).drop i) ++ gotA a (l.drop k) = gotA a l := by rw [← gotA_append, ← gotA_append, hsplit]
    have w1 : valueA (mergeA (mergeA (gathA a (l.take i)) (gathA a ((l.take k).drop i))) (gathA a (l.drop k))) = runA a l := by
      rw [((r1.merge r2).merge r3).value, hgot, ← runA_eq]
    have w2 : valueA (mergeA (gathA a (l.take i)) (mergeA (gathA a ((l.take k).drop i)) (gathA a (l.drop k)))) = runA a l := by
      rw [(r1.merge (r2.merge r3)).value, ← List.append_assoc, hgot, ← runA_eq]
    have w3 : valueA (mergeA (mergeA (gathA a (l.drop k)) (gathA a (l.take i))) (gathA a ((l.take k).drop i))) = runA a l := by
      rw [((r3.merge r1).merge r2).value, runA_eq, ← hgot]
      refine tellA_perm a ?_
      rw [List.append_assoc]
      exact List.perm_append_comm
    simp only [l19_AggParts_c1, l19_AggParts_c2, l19_AggParts_c3, l19_AggParts_c4, l19_AggParts_c5, l19_AggParts_c6, l19_AggParts_c7, l19_AggParts_c8, l19_AggParts_c9]
    have hids : Agg.mk a.name a.distinct a.t = a := Agg.ids_eq a
    simp only [hp, hq, minN, maxN, ← hi, ← hk, hids, Agg.ids_eq, Int.toNat_natCast, l19_awake_eq, l19_gather_eq, agg_Run_eq, agg_Value_eq, agg_Merge_eq, eqV_eq, w1, w2, w3, cndO_eq, decide_true, if_true, decide_eq_true_eq]
    rw [if_neg h, obO_pos hw, obO_pos hw, obO_pos (by omega), obO_pos (by omega), obO_pos (by omega), obO_pos (by omega), obO_pos (by omega), obO_pos (by omega), obO_pos (by omega),
      obO_pos (show mergeOK _ _ from ⟨a1.mono (by omega), a2.mono (by omega)⟩), obO_pos (show mergeOK _ _ from ⟨(a1.merge a2).mono (by omega), a3.mono (by omega)⟩), obO_pos (show stepOK _ from ((a1.merge a2).merge a3).mono (by omega)),
      obO_pos (show mergeOK _ _ from ⟨a2.mono (by omega), a3.mono (by omega)⟩), obO_pos (show mergeOK _ _ from ⟨a1.mono (by omega), (a2.merge a3).mono (by omega)⟩), obO_pos (show stepOK _ from (a1.merge (a2.merge a3)).mono (by omega)),
      obO_pos (show mergeOK _ _ from ⟨a3.mono (by omega), a1.mono (by omega)⟩), obO_pos (show mergeOK _ _ from ⟨(a3.merge a1).mono (by omega), a2.mono (by omega)⟩), obO_pos (show stepOK _ from ((a3.merge a1).merge a2).mono (by omega))]

def F_l19_AggParts : FnC Un := fun args => match args with
  | [x0, x1, .d (.agg [.s (.int .u8 at_0), .s (.int .u8 at_1)])] => (dS .agg x0).bind fun a => (dL .val x1).bind fun l => some ([], A_l19_AggParts (l19_AggParts a l at_0 at_1), O_l19_AggParts (l19_AggParts a l at_0 at_1))
  | _ => none

theorem ok_l19_AggParts : FnOK 4 F_l19_AggParts := by
  intro args ob rs os h hob
  unfold F_l19_AggParts at h
  split at h
  · rename_i x0 x1 at_0 at_1
    simp only [Option.bind_eq_some_iff, Option.some.injEq, Prod.mk.injEq] at h
    obtain ⟨a, e0, l, e1, rfl, rfl, rfl⟩ := h
    obtain rfl := dS_eq e0
    obtain rfl := dL_eq e1
    exact ⟨fn_contractF (M := M_l19_AggParts) rfl (tbl_ok (l1 := [(7, F_l19_awake), (11, F_l19_gather), (9, F_agg_Run), (12, F_agg_Merge), (10, F_agg_Value)]) (l2 := []) (l3 := []) (l4 := []) (l5 := []) ⟨ok_l19_awake, ok_l19_gather, ok_agg_Run, ok_agg_Merge, ok_agg_Value, trivial⟩ trivial trivial trivial trivial) Try.func4 (by kernel_rfl) N_l19_AggParts 0 [.d] (fun hwf => (l19_AggParts_spec a l at_0 at_1 (wfArg hwf (a := .d (.agg (enc Ty.agg a))) (List.mem_of_getElem? (i := 0) rfl)) (wfArg hwf (a := .d (.v (.dat (U := Un) Ty.val l))) (List.mem_of_getElem? (i := 1) rfl)) (wfArr hwf (List.mem_of_getElem? (i := 2) rfl) (List.mem_of_getElem? (i := 0) rfl)) (wfArr hwf (List.mem_of_getElem? (i := 2) rfl) (List.mem_of_getElem? (i := 1) rfl)))), hasBody_of Try.func4 (by kernel_rfl) (by kernel_rfl)⟩
  · simp at h


/-! ### tabellionlaw19.AggTurns -/
def M_l19_AggTurns : Mc Un := mach (tbl [(7, F_l19_awake), (9, F_agg_Run), (13, F_l19_num)]) (tbl []) (tbl []) (tbl []) (tbl [])
def A_l19_AggTurns (r : Bool) : List (A Un) := [.c (.s (.bool r))]
def O_l19_AggTurns (_r : Bool) : List (Ob Un) := []
def R_l19_AggTurns (r : Bool) : RF Un := (A_l19_AggTurns r, O_l19_AggTurns r)
def N_l19_AggTurns : Nat → NS := fun l => (look l []).getD ⟨[], [], [], [], []⟩
def l19_AggTurns_c1 (a : Agg) (l : List Val) (turn : Int) := agg_Run (Agg.mk a.name a.distinct a.t) (List.drop ((IntKind.i64.wrap turn).tmod (IntKind.i64.wrap ((↑l.length : Int) + (1 : Int)))).toNat l ++ List.take ((IntKind.i64.wrap turn).tmod (IntKind.i64.wrap ((↑l.length : Int) + (1 : Int)))).toNat l)
def l19_AggTurns_c2 (l : List Val) := l19_num (IntKind.i64.wrap ((↑l.length : Int) + (1 : Int)))
def l19_AggTurns_fn (a : Agg) (l : List Val) (turn : Int) : Option (RF Un) := awf M_l19_AggTurns N_l19_AggTurns (bodyOf Try.f5) (entry Try.f5.ntmps 0 [.d (.agg (enc Ty.agg a)), .d (.v (.dat (U := Un) Ty.val l)), .d (.v (.s (.int .u8 turn)))]) (retF M_l19_AggTurns Try.f5.results.toList [.d])
def l19_AggTurns_t1 (a : Agg) (l : List Val) : Option (RF Un) :=
 obO ((0 + l.length) * (32 : Nat) ≤ roomB)
  (obO (((l).length + l.length) * (32 : Nat) ≤ roomB)
   (obO ((l ++ l).length ≤ (400000 : Nat))
    (some (R_l19_AggTurns (andB [EK.int IntKind.i64, EK.str] ((agg_Run (Agg.ids a) (l ++ l)).kind == (agg_Run (Agg.ids a) l).kind) (andB [EK.str] ((agg_Run (Agg.ids a) (l ++ l)).n == (agg_Run (Agg.ids a) l).n) (andB [] ((agg_Run (Agg.ids a) (l ++ l)).s.toList == (agg_Run (Agg.ids a) l).s.toList) true)))))))
def l19_AggTurns_t2 (a : Agg) (l : List Val) : Option (RF Un) :=
 cndO (l19_awake)
  (cndO (!a.distinct)
   (some (R_l19_AggTurns (true)))
   (cndO ((↑a.t.length : Int) == (0 : Int))
    (some (R_l19_AggTurns (true)))
    (l19_AggTurns_t1 a l)))
  (some (R_l19_AggTurns (false)))
def l19_AggTurns_t3 (a : Agg) (l : List Val) : Option (RF Un) :=
 cndO ((↑a.t.length : Int) == (0 : Int))
  (cndO (!andB [EK.int IntKind.i64, EK.str] ((agg_Run (Agg.ids a) (l ++ [zeroVal])).kind == (l19_AggTurns_c2 l).kind) (andB [EK.str] ((agg_Run (Agg.ids a) (l ++ [zeroVal])).n == (l19_AggTurns_c2 l).n) (andB [] ((agg_Run (Agg.ids a) (l ++ [zeroVal])).s.toList == (l19_AggTurns_c2 l).s.toList) true)))
   (some (R_l19_AggTurns (false)))
   (l19_AggTurns_t2 a l))
  (l19_AggTurns_t2 a l)
theorem l19_AggTurns_in (a : Agg) (l : List Val) (turn : Int) : l19_AggTurns_fn a l turn =
 cndO (decide ((↑l.length : Int) > (60 : Int)))
  (some (R_l19_AggTurns (l19_awake)))
  (obO (¬IntKind.i64.wrap ((↑l.length : Int) + (1 : Int)) = 0)
   (obO ((0 : Int) ≤ (IntKind.i64.wrap turn).tmod (IntKind.i64.wrap ((↑l.length : Int) + (1 : Int))) ∧ (IntKind.i64.wrap turn).tmod (IntKind.i64.wrap ((↑l.length : Int) + (1 : Int))) ≤ (↑l.length : Int))
    (obO ((0 + (List.drop ((IntKind.i64.wrap turn).tmod (IntKind.i64.wrap ((↑l.length : Int) + (1 : Int)))).toNat l).length) * (32 : Nat) ≤ roomB)
     (obO ((0 : Int) ≤ (IntKind.i64.wrap turn).tmod (IntKind.i64.wrap ((↑l.length : Int) + (1 : Int))) ∧ (IntKind.i64.wrap turn).tmod (IntKind.i64.wrap ((↑l.length : Int) + (1 : Int))) ≤ (↑l.length : Int))
      (obO (((List.drop ((IntKind.i64.wrap turn).tmod (IntKind.i64.wrap ((↑l.length : Int) + (1 : Int)))).toNat l).length + (List.take ((IntKind.i64.wrap turn).tmod (IntKind.i64.wrap ((↑l.length : Int) + (1 : Int)))).toNat l).length) * (32 : Nat) ≤ roomB)
       (obO (l.length ≤ (400000 : Nat))
        (obO ((List.drop ((IntKind.i64.wrap turn).tmod (IntKind.i64.wrap ((↑l.length : Int) + (1 : Int)))).toNat l ++ List.take ((IntKind.i64.wrap turn).tmod (IntKind.i64.wrap ((↑l.length : Int) + (1 : Int)))).toNat l).length ≤ (400000 : Nat))
         (cndO (!andB [EK.int IntKind.i64, EK.str] ((l19_AggTurns_c1 a l turn).kind == (agg_Run (Agg.ids a) l).kind) (andB [EK.str] ((l19_AggTurns_c1 a l turn).n == (agg_Run (Agg.ids a) l).n) (andB [] ((l19_AggTurns_c1 a l turn).s.toList == (agg_Run (Agg.ids a) l).s.toList) true)))
          (some (R_l19_AggTurns (false)))
          (cndO (a.name.toList == (ByteArray.mk #[99, 111, 117, 110, 116]).toList)
           (obO ((0 + l.length) * (32 : Nat) ≤ roomB)
            (obO (((l).length + [zeroVal].length) * (32 : Nat) ≤ roomB)
             (obO ((l ++ [zeroVal]).length ≤ (400000 : Nat))
              (cndO (!(↑a.t.length : Int) == (0 : Int))
               (cndO (!andB [EK.int IntKind.i64, EK.str] ((agg_Run (Agg.ids a) (l ++ [zeroVal])).kind == (agg_Run (Agg.ids a) l).kind) (andB [EK.str] ((agg_Run (Agg.ids a) (l ++ [zeroVal])).n == (agg_Run (Agg.ids a) l).n) (andB [] ((agg_Run (Agg.ids a) (l ++ [zeroVal])).s.toList == (agg_Run (Agg.ids a) l).s.toList) true)))
                (some (R_l19_AggTurns (false)))
                (l19_AggTurns_t3 a l))
               (l19_AggTurns_t3 a l)))))
           (obO ((0 + l.length) * (32 : Nat) ≤ roomB)
            (obO (((l).length + [zeroVal].length) * (32 : Nat) ≤ roomB)
             (obO ((l ++ [zeroVal]).length ≤ (400000 : Nat))
              (cndO (!andB [EK.int IntKind.i64, EK.str] ((agg_Run (Agg.ids a) (l ++ [zeroVal])).kind == (agg_Run (Agg.ids a) l).kind) (andB [EK.str] ((agg_Run (Agg.ids a) (l ++ [zeroVal])).n == (agg_Run (Agg.ids a) l).n) (andB [] ((agg_Run (Agg.ids a) (l ++ [zeroVal])).s.toList == (agg_Run (Agg.ids a) l).s.toList) true)))
               (some (R_l19_AggTurns (false)))
               (cndO (l19_awake)
                (cndO (!a.distinct)
                 (some (R_l19_AggTurns (true)))
                 (l19_AggTurns_t1 a l))
                (some (R_l19_AggTurns (false))))))))))))))))) := by kernel_rfl

def l19_AggTurns (_a : Agg) (_l : List Val) (_x : Int) : Bool := true
theorem start_not {a : Agg} (h : ¬ (a.name = nmCount ∧ a.t = [])) : (startA a).name ≠ nmRows ∧ (startA a).distinct = a.distinct := by
  have n := nm_ne
  unfold startA
  by_cases h1 : a.name = nmCount
  · have h2 : ¬ a.t = [] := fun e => h ⟨h1, e⟩
    rw [if_pos h1, if_neg h2]
    exact ⟨by show a.name ≠ nmRows; rw [h1]; exact n.2.2.2.1, rfl⟩
  · rw [if_neg h1]
    by_cases h2 : a.name = nmSum ∨ a.name = nmMin ∨ a.name = nmMax
    · rw [if_pos h2]
      refine ⟨?_, rfl⟩
      show a.name ≠ nmRows
      rcases h2 with e | e | e <;> rw [e]
      · exact n.2.2.2.2.2.2.1
      · exact n.2.2.2.2.2.2.2.2.1
      · exact n.2.2.2.2.2.2.2.2.2.1
    · rw [if_neg h2]
      exact ⟨n.2.2.2.2.2.2.2.2.2.2.2.2.2.2, rfl⟩
theorem rA_run_null {a : Agg} (h : ¬ (a.name = nmCount ∧ a.t = [])) (l : List Val) : runA a (l ++ [zeroVal]) = runA a l := by
  rw [runA_eq, runA_eq, gotA_append]
  congr 1
  have : gotA a [zeroVal] = [] := by
    unfold gotA
    rw [List.filter_cons_of_neg, List.filter_nil]
    unfold countsA
    rw [cnt_zero, decide_eq_false (start_not h).1]; simp
  rw [this, List.append_nil]
theorem rA_run_turn (a : Agg) (l r : List Val) : runA a (r ++ l) = runA a (l ++ r) := by
  rw [runA_eq, runA_eq, gotA_append, gotA_append]
  exact tellA_perm a List.perm_append_comm
theorem rA_run_twice {a : Agg} (h : ¬ (a.name = nmCount ∧ a.t = [])) (hd : a.distinct = true) (l : List Val) : runA a (l ++ l) = runA a l := by
  rw [runA_eq, runA_eq, gotA_append]
  exact tellA_same a ((start_not h).2.trans hd) (fun v => by simp)
open Classical in
theorem l19_AggTurns_spec (a : Agg) (l : List Val) (turn : Int) (_ha : WS .agg a) (_hl : WL .val l) (h0 : WK .u8 turn) : l19_AggTurns_fn a l turn = some (R_l19_AggTurns (l19_AggTurns a l turn)) := by
  rw [l19_AggTurns_in]
  unfold l19_AggTurns
  by_cases h : (l.length : Int) > 60
  · rw [cndO_eq, if_pos (by simpa using h), l19_awake_eq]
  · obtain ⟨k, hk, hkl⟩ := u8_mod (n := l.length) h0 (by omega)
    have hw : ¬ IntKind.i64.wrap ((l.length : Int) + 1) = 0 := by rw [wrap_id (by omega)]; omega
    have hw2 : IntKind.i64.wrap ((l.length : Int) + 1) = ((l.length + 1 : Nat) : Int) := by rw [wrap_id (by omega)]; rfl
    have hids : Agg.mk a.name a.distinct a.t = a := Agg.ids_eq a
    have t1 : (l.drop k).length ≤ 60 := by rw [List.length_drop]; omega
    have t2 : (l.take k).length ≤ 60 := by rw [List.length_take]; omega
    have r0 : roomB = 35184372088832 := rfl
    have hturn : runA a (l.drop k ++ l.take k) = runA a l := by rw [rA_run_turn, List.take_append_drop]
    simp only [l19_AggTurns_c1, l19_AggTurns_c2, l19_AggTurns_t1, l19_AggTurns_t2, l19_AggTurns_t3]
    rw [hk]
    rw [cndO_eq, if_neg (by simpa using h), obO_pos hw, obO_pos (by omega), obO_pos (by rw [r0, Int.toNat_natCast]; omega), obO_pos (by omega), obO_pos (by rw [r0, Int.toNat_natCast]; omega), obO_pos (by omega),
      obO_pos (by rw [List.length_append, Int.toNat_natCast]; omega)]
    have o1 : (0 + l.length) * 32 ≤ roomB := by rw [r0]; omega
    have o2 : (l.length + [zeroVal].length) * 32 ≤ roomB := by rw [r0]; simp only [List.length_singleton]; omega
    have o3 : (l ++ [zeroVal]).length ≤ 400000 := by simp only [List.length_append, List.length_singleton]; omega
    have o4 : (l.length + l.length) * 32 ≤ roomB := by rw [r0]; omega
    have o5 : (l ++ l).length ≤ 400000 := by simp only [List.length_append]; omega
    simp only [obO_pos o1, obO_pos o2, obO_pos o3, obO_pos o4, obO_pos o5, hids, Agg.ids_eq, Int.toNat_natCast, l19_awake_eq, agg_Run_eq, l19_num_spec, hturn, hw2, eqV_eq]
    simp only [nm_count, name_beq, cndO_eq, decide_true, Bool.not_true, Bool.false_eq_true, if_true, if_false, decide_eq_true_eq, beq_iff_eq, Bool.not_eq_true', beq_eq_false_iff_ne]
    by_cases hc : a.name = nmCount
    · rw [if_pos hc]
      by_cases ht : a.t = []
      · have hlen : (a.t.length : Int) = 0 := by rw [ht]; rfl
        have hm : runA a (l ++ [zeroVal]) = numV ((l.length + 1 : Nat) : Int) := by
          rw [start_rows hc ht]; simp
        rw [if_neg (fun e => e hlen), if_pos hlen, hm, decide_eq_true rfl, if_pos hlen]
        simp only [Bool.true_eq_false, if_false]
        split <;> rfl
      · have hlen : ¬ (a.t.length : Int) = 0 := fun e => ht (List.eq_nil_of_length_eq_zero (by omega))
        have hnot : ¬ (a.name = nmCount ∧ a.t = []) := fun e => ht e.2
        rw [if_pos hlen, rA_run_null hnot, decide_eq_true rfl, if_neg hlen, if_neg hlen]
        simp only [Bool.true_eq_false, if_false]
        by_cases hd : a.distinct = false
        · rw [if_pos hd]
        · rw [if_neg hd, rA_run_twice hnot (by simpa using hd), decide_eq_true rfl]
    · have hnot : ¬ (a.name = nmCount ∧ a.t = []) := fun e => hc e.1
      rw [if_neg hc, rA_run_null hnot, decide_eq_true rfl]
      simp only [Bool.true_eq_false, if_false]
      by_cases hd : a.distinct = false
      · rw [if_pos hd]
      · rw [if_neg hd, rA_run_twice hnot (by simpa using hd), decide_eq_true rfl]

def F_l19_AggTurns : FnC Un := fun args => match args with
  | [x0, x1, x2] => (dS .agg x0).bind fun a => (dL .val x1).bind fun l => (dI .u8 x2).bind fun turn => some ([], A_l19_AggTurns (l19_AggTurns a l turn), O_l19_AggTurns (l19_AggTurns a l turn))
  | _ => none

theorem ok_l19_AggTurns : FnOK 5 F_l19_AggTurns := by
  intro args ob rs os h hob
  unfold F_l19_AggTurns at h
  split at h
  · simp only [Option.bind_eq_some_iff, Option.some.injEq, Prod.mk.injEq] at h
    obtain ⟨a, e0, l, e1, turn, e2, rfl, rfl, rfl⟩ := h
    obtain rfl := dS_eq e0
    obtain rfl := dL_eq e1
    obtain rfl := dI_eq e2
    exact ⟨fn_contractF (M := M_l19_AggTurns) rfl (tbl_ok (l1 := [(7, F_l19_awake), (9, F_agg_Run), (13, F_l19_num)]) (l2 := []) (l3 := []) (l4 := []) (l5 := []) ⟨ok_l19_awake, ok_agg_Run, ok_l19_num, trivial⟩ trivial trivial trivial trivial) Try.func5 (by kernel_rfl) N_l19_AggTurns 0 [.d] (fun hwf => (l19_AggTurns_spec a l turn (wfArg hwf (a := .d (.agg (enc Ty.agg a))) (List.mem_of_getElem? (i := 0) rfl)) (wfArg hwf (a := .d (.v (.dat (U := Un) Ty.val l))) (List.mem_of_getElem? (i := 1) rfl)) (wfArg hwf (a := .d (.v (.s (.int .u8 turn)))) (List.mem_of_getElem? (i := 2) rfl)))), hasBody_of Try.func5 (by kernel_rfl) (by kernel_rfl)⟩
  · simp at h


/-! ### tabellionlaw19.AggBounds -/
def M_l19_AggBounds : Mc Un := mach (tbl [(7, F_l19_awake), (9, F_agg_Run), (14, F_value_Order)]) (tbl []) (tbl []) (tbl []) (tbl [])
def A_l19_AggBounds (r : Bool) : List (A Un) := [.c (.s (.bool r))]
def O_l19_AggBounds (_r : Bool) : List (Ob Un) := []
def R_l19_AggBounds (r : Bool) : RF Un := (A_l19_AggBounds r, O_l19_AggBounds r)
def N_l19_AggBounds : Nat → NS := fun l => (look l [(8, { ts := bl 175 8163, bs := bl 175 960, nm := [(.sl 5, 700)] })]).getD ⟨[], [], [], [], []⟩
def l19_AggBounds_c1 (l : List Val) := agg_Run (Agg.mk (ByteArray.mk #[109, 105, 110]) false [zeroTerm]) l
def l19_AggBounds_c2 (l : List Val) := agg_Run (Agg.mk (ByteArray.mk #[109, 97, 120]) false [zeroTerm]) l
def l19_AggBounds_c3 (l : List Val) := agg_Run (Agg.mk (ByteArray.mk #[99, 111, 117, 110, 116]) false [zeroTerm]) l
def l19_AggBounds_c4 (l : List Val) := agg_Run (Agg.mk (ByteArray.mk #[99, 111, 117, 110, 116]) true [zeroTerm]) l
def l19_AggBounds_c5 (l : List Val) (at_ : Int) := agg_Run (Agg.mk (ByteArray.mk #[115, 117, 109]) false [zeroTerm]) (List.take ((IntKind.i64.wrap at_).tmod (IntKind.i64.wrap ((↑l.length : Int) + (1 : Int)))).toNat l)
def l19_AggBounds_c6 (l : List Val) (at_ : Int) := agg_Run (Agg.mk (ByteArray.mk #[115, 117, 109]) false [zeroTerm]) (List.drop ((IntKind.i64.wrap at_).tmod (IntKind.i64.wrap ((↑l.length : Int) + (1 : Int)))).toNat l)
def l19_AggBounds_c7 (l : List Val) := agg_Run (Agg.mk (ByteArray.mk #[115, 117, 109]) false [zeroTerm]) l
def l19_AggBounds_s8 (l : List Val) (at_ : Int) (v0 : Bool) (v1 : Bool) (v2 : Int) : S Un := (st 175 175 701 0 [(0, al .val l), (1, AV.one (A.c (C.s (Value.int IntKind.u8 at_)))), (5, ao 700), (6, ax 6), (7, ax 7), (8, ax 8), (9, ax 9), (10, ab v0), (11, ab v1), (12, ai v2)] [(6, some (false, encC Ty.val (l19_AggBounds_c1 l))), (7, some (false, encC Ty.val (l19_AggBounds_c2 l))), (8, some (false, encC Ty.val (l19_AggBounds_c3 l))), (9, some (false, encC Ty.val (l19_AggBounds_c4 l)))] [(700, some ⟨(0 : Nat), Ty.term, [zeroTerm], some (0 : Nat), true⟩)])
def l19_AggBounds_B8 : Code := sub (bodyOf Try.f6) [1, 1, 1, 1, 1, 1, 0, 1, 2, 2]
def l19_AggBounds_L8 : S Un → Option (EX Un) := loopF (N_l19_AggBounds 8) (fun s Q => awf M_l19_AggBounds N_l19_AggBounds l19_AggBounds_B8 s Q)
def l19_AggBounds_C8 : Exit → S Un → Option (RF Un) := ctxF M_l19_AggBounds N_l19_AggBounds (bodyOf Try.f6) [1, 1, 1, 1, 1, 1, 0, 1, 2] (retF M_l19_AggBounds Try.f6.results.toList [.d])
def l19_AggBounds_fn (l : List Val) (at_ : Int) : Option (RF Un) := awf M_l19_AggBounds N_l19_AggBounds (bodyOf Try.f6) (entry Try.f6.ntmps 1 [.d (.v (.dat (U := Un) Ty.val l)), .d (.v (.s (.int .u8 at_)))]) (retF M_l19_AggBounds Try.f6.results.toList [.d])
theorem l19_AggBounds_in (l : List Val) (at_ : Int) : l19_AggBounds_fn l at_ =
 cndO (decide ((↑l.length : Int) > (60 : Int)))
  (some (R_l19_AggBounds (l19_awake)))
  (obO (l.length ≤ (400000 : Nat))
   (obO (l.length ≤ (400000 : Nat))
    (obO (l.length ≤ (400000 : Nat))
     (obO (l.length ≤ (400000 : Nat))
      ((l19_AggBounds_L8 (l19_AggBounds_s8 l at_ false false (0 : Int))).bind (thenX l19_AggBounds_C8)))))) := by kernel_rfl
theorem l19_AggBounds_l8 (l : List Val) (at_ : Int) (v0 : Bool) (v1 : Bool) (v2 : Int) : l19_AggBounds_L8 (l19_AggBounds_s8 l at_ v0 v1 v2) =
 cndO (decide (v2 < (↑l.length : Int)))
  (cndO (v0)
   (cndO (v1)
    (l19_AggBounds_L8 (l19_AggBounds_s8 l at_ true true (IntKind.i64.wrap (v2 + 1))))
    (obO (0 ≤ v2 ∧ v2 < (↑l.length : Int))
     (l19_AggBounds_L8 (l19_AggBounds_s8 l at_ true (andB [EK.int IntKind.i64, EK.str] ((l.getD v2.toNat zeroVal).kind == (l19_AggBounds_c2 l).kind) (andB [EK.str] ((l.getD v2.toNat zeroVal).n == (l19_AggBounds_c2 l).n) (andB [] ((l.getD v2.toNat zeroVal).s.toList == (l19_AggBounds_c2 l).s.toList) true))) (IntKind.i64.wrap (v2 + 1))))))
   (obO (0 ≤ v2 ∧ v2 < (↑l.length : Int))
    (cndO (v1)
     (l19_AggBounds_L8 (l19_AggBounds_s8 l at_ (andB [EK.int IntKind.i64, EK.str] ((l.getD v2.toNat zeroVal).kind == (l19_AggBounds_c1 l).kind) (andB [EK.str] ((l.getD v2.toNat zeroVal).n == (l19_AggBounds_c1 l).n) (andB [] ((l.getD v2.toNat zeroVal).s.toList == (l19_AggBounds_c1 l).s.toList) true))) true (IntKind.i64.wrap (v2 + 1))))
     (obO (0 ≤ v2 ∧ v2 < (↑l.length : Int))
      (l19_AggBounds_L8 (l19_AggBounds_s8 l at_ (andB [EK.int IntKind.i64, EK.str] ((l.getD v2.toNat zeroVal).kind == (l19_AggBounds_c1 l).kind) (andB [EK.str] ((l.getD v2.toNat zeroVal).n == (l19_AggBounds_c1 l).n) (andB [] ((l.getD v2.toNat zeroVal).s.toList == (l19_AggBounds_c1 l).s.toList) true))) (andB [EK.int IntKind.i64, EK.str] ((l.getD v2.toNat zeroVal).kind == (l19_AggBounds_c2 l).kind) (andB [EK.str] ((l.getD v2.toNat zeroVal).n == (l19_AggBounds_c2 l).n) (andB [] ((l.getD v2.toNat zeroVal).s.toList == (l19_AggBounds_c2 l).s.toList) true))) (IntKind.i64.wrap (v2 + 1))))))))
  (some (.exit 0, (l19_AggBounds_s8 l at_ v0 v1 v2))) := (loopF_eq (N_l19_AggBounds 8) l19_AggBounds_B8 _).trans (by kernel_rfl)
def l19_AggBounds_t1 (l : List Val) (at_ : Int) : Option (RF Un) :=
 obO (¬IntKind.i64.wrap ((↑l.length : Int) + (1 : Int)) = 0)
  (obO ((0 : Int) ≤ (IntKind.i64.wrap at_).tmod (IntKind.i64.wrap ((↑l.length : Int) + (1 : Int))) ∧ (IntKind.i64.wrap at_).tmod (IntKind.i64.wrap ((↑l.length : Int) + (1 : Int))) ≤ (↑l.length : Int))
   (obO ((List.take ((IntKind.i64.wrap at_).tmod (IntKind.i64.wrap ((↑l.length : Int) + (1 : Int)))).toNat l).length ≤ (400000 : Nat))
    (obO ((0 : Int) ≤ (IntKind.i64.wrap at_).tmod (IntKind.i64.wrap ((↑l.length : Int) + (1 : Int))) ∧ (IntKind.i64.wrap at_).tmod (IntKind.i64.wrap ((↑l.length : Int) + (1 : Int))) ≤ (↑l.length : Int))
     (obO ((List.drop ((IntKind.i64.wrap at_).tmod (IntKind.i64.wrap ((↑l.length : Int) + (1 : Int)))).toNat l).length ≤ (400000 : Nat))
      (obO (l.length ≤ (400000 : Nat))
       (cndO (l19_awake)
        (cndO ((l19_AggBounds_c5 l at_).kind != 2)
         (some (R_l19_AggBounds (true)))
         (cndO ((l19_AggBounds_c6 l at_).kind != 2)
          (some (R_l19_AggBounds (true)))
          (cndO ((l19_AggBounds_c7 l).kind != 2)
           (some (R_l19_AggBounds (true)))
           (some (R_l19_AggBounds (IntKind.i64.wrap ((l19_AggBounds_c5 l at_).n + (l19_AggBounds_c6 l at_).n) == (l19_AggBounds_c7 l).n))))))
        (some (R_l19_AggBounds (false)))))))))
theorem l19_AggBounds_a8_x0 (l : List Val) (at_ : Int) (v0 : Bool) (v1 : Bool) (v2 : Int) : l19_AggBounds_C8 (.exit 0) (l19_AggBounds_s8 l at_ v0 v1 v2) =
 cndO ((l19_AggBounds_c3 l).kind != 2)
  (some (R_l19_AggBounds (false)))
  (cndO ((l19_AggBounds_c4 l).kind != 2)
   (some (R_l19_AggBounds (false)))
   (cndO (decide ((l19_AggBounds_c4 l).n > (l19_AggBounds_c3 l).n))
    (some (R_l19_AggBounds (false)))
    (cndO (decide ((l19_AggBounds_c3 l).n > (↑l.length : Int)))
     (some (R_l19_AggBounds (false)))
     (cndO (!((l19_AggBounds_c3 l).n == 0) == andB [EK.int IntKind.i64, EK.str] ((l19_AggBounds_c1 l).kind == 0) (andB [EK.str] ((l19_AggBounds_c1 l).n == 0) (andB [] ((l19_AggBounds_c1 l).s.toList == (ByteArray.mk #[]).toList) true)))
      (some (R_l19_AggBounds (false)))
      (cndO (!andB [EK.int IntKind.i64, EK.str] ((l19_AggBounds_c1 l).kind == 0) (andB [EK.str] ((l19_AggBounds_c1 l).n == 0) (andB [] ((l19_AggBounds_c1 l).s.toList == (ByteArray.mk #[]).toList) true)) == andB [EK.int IntKind.i64, EK.str] ((l19_AggBounds_c2 l).kind == 0) (andB [EK.str] ((l19_AggBounds_c2 l).n == 0) (andB [] ((l19_AggBounds_c2 l).s.toList == (ByteArray.mk #[]).toList) true)))
       (some (R_l19_AggBounds (false)))
       (cndO (decide ((l19_AggBounds_c3 l).n > 0))
        (cndO (!v0)
         (some (R_l19_AggBounds (false)))
         (cndO (!v1)
          (some (R_l19_AggBounds (false)))
          (cndO (decide (value_Order (l19_AggBounds_c1 l) (l19_AggBounds_c2 l) > 0))
           (some (R_l19_AggBounds (false)))
           (cndO (decide ((l19_AggBounds_c4 l).n < 1))
            (some (R_l19_AggBounds (false)))
            (l19_AggBounds_t1 l at_)))))
        (l19_AggBounds_t1 l at_))))))) := by kernel_rfl

def l19_AggBounds (_l : List Val) (_x : Int) : Bool := true
theorem cntV_other {nm : ByteArray} (h : nm ≠ nmSum) : cntV nm = cntV nmCount := by
  funext v
  unfold cntV
  rw [decide_eq_true h, decide_eq_true nm_ne.1]
def cntC (l : List Val) : List Val := l.filter (cntV nmCount)
def loV (l : List Val) : Val := if cntC l = [] then zeroVal else minFrom ((cntC l).headD zeroVal) (cntC l)
def hiV (l : List Val) : Val := if cntC l = [] then zeroVal else maxFrom ((cntC l).headD zeroVal) (cntC l)
theorem rA_run_min (l : List Val) : runA (Agg.mk nmMin false [zeroTerm]) l = loV l := by
  have n := nm_ne
  obtain ⟨e1, e2, e3, e4⟩ := start_named (a := aggT nmMin false) (.inr (.inl rfl))
  refine (runA_named (a := aggT nmMin false) e1 e2 e3 e4 l).trans ?_
  rw [cntd_eq e4]
  show tellV nmMin (l.filter (cntV nmMin)) = _
  rw [cntV_other (nm := nmMin) (Ne.symm n.2.2.2.2.1)]
  unfold tellV loV cntC
  rw [if_neg (by rintro (e | e); exact n.2.1 e.symm; exact n.2.2.2.2.2.2.2.2.1 e)]
  split
  · rfl
  · rw [if_neg (fun e => n.2.2.2.2.1 e.symm), if_pos rfl]
theorem rA_run_max (l : List Val) : runA (Agg.mk nmMax false [zeroTerm]) l = hiV l := by
  have n := nm_ne
  obtain ⟨e1, e2, e3, e4⟩ := start_named (a := aggT nmMax false) (.inr (.inr (.inl rfl)))
  refine (runA_named (a := aggT nmMax false) e1 e2 e3 e4 l).trans ?_
  rw [cntd_eq e4]
  show tellV nmMax (l.filter (cntV nmMax)) = _
  rw [cntV_other (nm := nmMax) (Ne.symm n.2.2.2.2.2.1)]
  unfold tellV hiV cntC
  rw [if_neg (by rintro (e | e); exact n.2.2.1 e.symm; exact n.2.2.2.2.2.2.2.2.2.1 e)]
  split
  · rfl
  · rw [if_neg (fun e => n.2.2.2.2.2.1 e.symm), if_neg (fun e => n.2.2.2.2.2.2.2.1 e.symm), if_pos rfl]
theorem rA_run_cnt (l : List Val) : runA (Agg.mk nmCount false [zeroTerm]) l = numV (cntC l).length := by
  refine (runA_count false l).trans ?_
  rw [cntd_count]; rfl
theorem rA_run_dis (l : List Val) : runA (Agg.mk nmCount true [zeroTerm]) l = numV (dedupV (cntC l)).length := by
  refine (runA_count true l).trans ?_
  rw [cntd_eq (by unfold rowsA; exact decide_eq_false (fun e => by have := e.2; rw [(aggT_name _ _).2.2] at this; simp at this))]; rfl
theorem rA_run_sum (l : List Val) : runA (Agg.mk nmSum false [zeroTerm]) l = if l.filter (cntV nmSum) = [] then zeroVal else totV (sumZ (l.filter (cntV nmSum))) := by
  refine (runA_sum false l).trans ?_
  rw [cntd_sum]
  split
  · rename_i h; rw [h, tell_nil]
  · rename_i h; rw [tell_sum h]
theorem rA_run_sum_n {l : List Val} (h : (runA (Agg.mk nmSum false [zeroTerm]) l).kind = 2) : (runA (Agg.mk nmSum false [zeroTerm]) l).n = sumZ (l.filter (cntV nmSum)) ∧ -1000000000000000 ≤ sumZ (l.filter (cntV nmSum)) ∧ sumZ (l.filter (cntV nmSum)) ≤ 1000000000000000 := by
  rw [rA_run_sum] at h ⊢
  split at h
  · simp [zeroVal] at h
  · rename_i hne
    rw [if_neg hne]
    unfold totV at h ⊢
    split at h
    · rename_i hi
      rw [if_pos hi]
      refine ⟨rfl, ?_⟩
      unfold inN at hi
      simp at hi; omega
    · simp [zeroVal] at h
theorem cntC_mem {l : List Val} {v : Val} (h : v ∈ cntC l) : v ∈ l ∧ v ≠ zeroVal := by
  have := List.mem_filter.1 h
  refine ⟨this.1, fun e => ?_⟩
  have h2 := this.2
  rw [e, cnt_zero] at h2; simp at h2
theorem lo_spec {l : List Val} (h : cntC l ≠ []) : loV l ∈ cntC l ∧ ∀ v ∈ cntC l, leV (loV l) v := by
  unfold loV; rw [if_neg h]; exact isMin_from h
theorem hi_spec {l : List Val} (h : cntC l ≠ []) : hiV l ∈ cntC l ∧ ∀ v ∈ cntC l, leV v (hiV l) := by
  unfold hiV; rw [if_neg h]; exact isMax_from h
open Classical in
theorem rA_bnd_loop (l : List Val) (at_ : Int) (hl : l.length ≤ 1000) : ∃ j, l19_AggBounds_L8 (l19_AggBounds_s8 l at_ false false (0 : Int)) = some (.exit 0, l19_AggBounds_s8 l at_ (decide (loV l ∈ l)) (decide (hiV l ∈ l)) j) := by
  obtain ⟨h, _⟩ := loop_fold (e := .exit 0) (L := l19_AggBounds_L8) (st := fun (b : Bool × Bool) i => l19_AggBounds_s8 l at_ b.1 b.2 i) (l := l) (d := zeroVal) (g := fun b x => (b.1 || decide (x = loV l), b.2 || decide (x = hiV l))) (fun _ _ => True) (by omega)
    (fun b i v hi hv _ => ⟨trivial, by
      obtain ⟨p, q⟩ := b
      rw [l19_AggBounds_l8]
      simp only [l19_AggBounds_c1, l19_AggBounds_c2, nm_min, nm_max, agg_Run_eq, rA_run_min, rA_run_max, cndO_eq, hi, decide_true, if_true, and_true, Int.toNat_natCast, hv, eqV_eq]
      have ho : (0 : Int) ≤ (i : Int) := by omega
      simp only [obO_pos ho]
      cases p <;> cases q <;> simp⟩)
    (fun b _ => by rw [l19_AggBounds_l8]; simp [cndO_eq]) (false, false) trivial
  refine ⟨l.length, h.trans ?_⟩
  have key : ∀ (r : List Val) (b : Bool × Bool), r.foldl (fun b x => (b.1 || decide (x = loV l), b.2 || decide (x = hiV l))) b = (b.1 || decide (loV l ∈ r), b.2 || decide (hiV l ∈ r)) := by
    intro r
    induction r with
    | nil => intro b; simp
    | cons x r ih =>
      intro b
      rw [List.foldl_cons, ih]
      simp only [List.mem_cons, Bool.decide_or, Bool.or_assoc, eq_comm (a := x)]
  rw [key l (false, false)]
  simp
open Classical in
theorem l19_AggBounds_spec (l : List Val) (at_ : Int) (_hl : WL .val l) (h0 : WK .u8 at_) : l19_AggBounds_fn l at_ = some (R_l19_AggBounds (l19_AggBounds l at_)) := by
  rw [l19_AggBounds_in]
  unfold l19_AggBounds
  by_cases h : (l.length : Int) > 60
  · rw [cndO_eq, if_pos (by simpa using h), l19_awake_eq]
  · obtain ⟨k, hk, hkl⟩ := u8_mod (n := l.length) h0 (by omega)
    have hw : ¬ IntKind.i64.wrap ((l.length : Int) + 1) = 0 := by rw [wrap_id (by omega)]; omega
    obtain ⟨j, hj⟩ := rA_bnd_loop l at_ (by omega)
    rw [cndO_eq, if_neg (by simpa using h), obO_pos (by omega), obO_pos (by omega), obO_pos (by omega), obO_pos (by omega), loop_end hj, l19_AggBounds_a8_x0]
    have hcl : (cntC l).length ≤ l.length := List.length_filter_le _ _
    have hdl := dedupV_len (cntC l)
    have tail : l19_AggBounds_t1 l at_ = some (R_l19_AggBounds true) := by
      unfold l19_AggBounds_t1
      simp only [l19_AggBounds_c5, l19_AggBounds_c6, l19_AggBounds_c7, hk, Int.toNat_natCast, nm_sum, agg_Run_eq, l19_awake_eq]
      have t1 : (l.take k).length ≤ 400000 := by rw [List.length_take]; omega
      have t2 : (l.drop k).length ≤ 400000 := by rw [List.length_drop]; omega
      rw [obO_pos hw, obO_pos (by omega), obO_pos t1, obO_pos (by omega), obO_pos t2, obO_pos (by omega)]
      simp only [cndO_eq, if_true, bne_iff_ne, ne_eq, ite_not]
      by_cases x1 : (runA (Agg.mk nmSum false [zeroTerm]) (l.take k)).kind = 2
      · by_cases x2 : (runA (Agg.mk nmSum false [zeroTerm]) (l.drop k)).kind = 2
        · by_cases x3 : (runA (Agg.mk nmSum false [zeroTerm]) l).kind = 2
          · rw [if_pos x1, if_pos x2, if_pos x3]
            obtain ⟨y1, z1⟩ := rA_run_sum_n x1
            obtain ⟨y2, z2⟩ := rA_run_sum_n x2
            obtain ⟨y3, z3⟩ := rA_run_sum_n x3
            have hs : sumZ (l.filter (cntV nmSum)) = sumZ ((l.take k).filter (cntV nmSum)) + sumZ ((l.drop k).filter (cntV nmSum)) := by
              rw [← sumZ_append, ← List.filter_append, List.take_append_drop]
            rw [y1, y2, y3, wrap_id (by omega), hs]
            simp
          · rw [if_pos x1, if_pos x2, if_neg x3]
        · rw [if_pos x1, if_neg x2]
      · rw [if_neg x1]
    simp only [l19_AggBounds_c1, l19_AggBounds_c2, l19_AggBounds_c3, l19_AggBounds_c4, nm_min, nm_max, nm_count, agg_Run_eq, rA_run_min, rA_run_max, rA_run_cnt, rA_run_dis, eqV_zero, value_Order_eq, tail, cndO_eq]
    have e2 : ∀ n : Int, (numV n).kind = 2 ∧ (numV n).n = n := fun _ => ⟨rfl, rfl⟩
    simp only [(e2 _).1, (e2 _).2]
    rw [if_neg (by simp), if_neg (by simp), if_neg (by simp; omega), if_neg (by simp; omega)]
    by_cases hc : cntC l = []
    · have l1 : loV l = zeroVal := by unfold loV; rw [if_pos hc]
      have l2 : hiV l = zeroVal := by unfold hiV; rw [if_pos hc]
      rw [l1, l2, hc]
      simp
    · have hpos : 0 < (cntC l).length := List.length_pos_iff.2 hc
      obtain ⟨m1, m2⟩ := lo_spec hc
      obtain ⟨m3, m4⟩ := hi_spec hc
      have d1 : 1 ≤ (dedupV (cntC l)).length := by
        have : loV l ∈ dedupV (cntC l) := (dedupV_mem _ _).2 m1
        have := List.length_pos_of_mem this; omega
      have n1 := (cntC_mem m1)
      have n2 := (cntC_mem m3)
      have o1 : ¬ ordV (loV l) (hiV l) > 0 := by have := m2 _ m3; unfold leV at this; omega
      rw [if_neg (by simp [n1.2]; omega), if_neg (by simp [n1.2, n2.2]), if_pos (by simp; omega), if_neg (by simp [n1.1]), if_neg (by simp [n2.1]), if_neg (by simpa using o1), if_neg (by simp; omega)]

def F_l19_AggBounds : FnC Un := fun args => match args with
  | [x0, x1] => (dL .val x0).bind fun l => (dI .u8 x1).bind fun at_ => some ([], A_l19_AggBounds (l19_AggBounds l at_), O_l19_AggBounds (l19_AggBounds l at_))
  | _ => none

theorem ok_l19_AggBounds : FnOK 6 F_l19_AggBounds := by
  intro args ob rs os h hob
  unfold F_l19_AggBounds at h
  split at h
  · simp only [Option.bind_eq_some_iff, Option.some.injEq, Prod.mk.injEq] at h
    obtain ⟨l, e0, at_, e1, rfl, rfl, rfl⟩ := h
    obtain rfl := dL_eq e0
    obtain rfl := dI_eq e1
    exact ⟨fn_contractF (M := M_l19_AggBounds) rfl (tbl_ok (l1 := [(7, F_l19_awake), (9, F_agg_Run), (14, F_value_Order)]) (l2 := []) (l3 := []) (l4 := []) (l5 := []) ⟨ok_l19_awake, ok_agg_Run, ok_value_Order, trivial⟩ trivial trivial trivial trivial) Try.func6 (by kernel_rfl) N_l19_AggBounds 1 [.d] (fun hwf => (l19_AggBounds_spec l at_ (wfArg hwf (a := .d (.v (.dat (U := Un) Ty.val l))) (List.mem_of_getElem? (i := 0) rfl)) (wfArg hwf (a := .d (.v (.s (.int .u8 at_)))) (List.mem_of_getElem? (i := 1) rfl)))), hasBody_of Try.func6 (by kernel_rfl) (by kernel_rfl)⟩
  · simp at h


end
end Go.Proofs.Ytpaelnkffpmfaaa.B
