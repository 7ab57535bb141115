/- Part 26 of the proof: Slaw21e ConjWholeUptoProof ConjMovesUptoProof. -/
import Derived.SizedLaws
import Derived.JoinedCond
import Derived.Test.YtjmpnpkcgkhagaaGreatRows
import Derived.Test.YtjmpnpkcgkhagaaGreatCtr25
namespace Go.Proofs.YtjmpnpkcgkhagaaGreat.B
open Go Go.RowKit
set_option maxRecDepth 100000
noncomputable section
attribute [local irreducible] awp ctxK itersK iterK retQ retGQ awf ctxF loopF
def M_l21_col : Mc Un := mach (tbl []) (tbl []) (tbl []) (tbl []) (tbl [])
def A_l21_col (r : Term) : List (A Un) := [.agg (encC Ty.term r)]
def O_l21_col (_r : Term) : List (Ob Un) := []
def R_l21_col (r : Term) : RF Un := (A_l21_col r, O_l21_col r)
def N_l21_col : Nat → NS := fun l => (look l []).getD ⟨[], [], [], [], [], true⟩
def l21_col_fn (depth : Int) (at_ : Int) : Option (RF Un) := awf M_l21_col N_l21_col (bodyOf Tryz.f20) (entry Tryz.f20.ntmps 0 [.d (.v (.s (.int .i64 depth))), .d (.v (.s (.int .i64 at_)))]) (retF M_l21_col Tryz.f20.results.toList [.d])
theorem l21_col_in (depth : Int) (at_ : Int) : l21_col_fn depth at_ =
 some (R_l21_col (Term.mk (2 : Int) zeroVal depth at_ (ByteArray.mk #[]) [] [] (2 : Int))) := by kernel_rfl
def l21_col (depth at_ : Int) : Term := .mk 2 zeroVal depth at_ ⟨#[]⟩ [] [] 2
theorem l21_col_spec (depth at_ : Int) (_h : WI depth) (_h2 : WI at_) : l21_col_fn depth at_ = some (R_l21_col (l21_col depth at_)) := by rw [l21_col_in]; rfl
def l21_and (a b : Term) : Term := and2 a b
def F_l21_col : FnC Un := fun args => match args with
  | [x0, x1] => (dI .i64 x0).bind fun depth => (dI .i64 x1).bind fun at_ => some ([], A_l21_col (l21_col depth at_), O_l21_col (l21_col depth at_))
  | _ => none
theorem ok_l21_col : FnOK 20 F_l21_col := by
  intro args ob rs os h hob
  unfold F_l21_col at h
  split at h
  · simp only [Option.bind_eq_some_iff, Option.some.injEq, Prod.mk.injEq] at h
    obtain ⟨depth, e0, at_, e1, rfl, rfl, rfl⟩ := h
    obtain rfl := dI_eq e0
    obtain rfl := dI_eq e1
    exact ⟨fn_contractF (M := M_l21_col) rfl (tbl_ok (l1 := []) (l2 := []) (l3 := []) (l4 := []) (l5 := []) trivial trivial trivial trivial trivial) Tryz.func20 (by kernel_rfl) N_l21_col 0 [.d] (fun hwf => (l21_col_spec depth at_ (wfArg hwf (a := .d (.v (.s (.int .i64 depth)))) (List.mem_of_getElem? (i := 0) rfl)) (wfArg hwf (a := .d (.v (.s (.int .i64 at_)))) (List.mem_of_getElem? (i := 1) rfl)))), hasBody_of Tryz.func20 (by kernel_rfl) (by kernel_rfl)⟩
  · simp at h
def M_l21_and : Mc Un := mach (tbl []) (tbl []) (tbl []) (tbl []) (tbl [])
def A_l21_and (r : Term) : List (A Un) := [.agg (encC Ty.term r)]
def O_l21_and (_r : Term) : List (Ob Un) := []
def R_l21_and (r : Term) : RF Un := (A_l21_and r, O_l21_and r)
def N_l21_and : Nat → NS := fun l => (look l []).getD ⟨[], [], [], [], [], true⟩
def l21_and_fn (a : Term) (b : Term) : Option (RF Un) := awf M_l21_and N_l21_and (bodyOf Tryz.f22) (entry Tryz.f22.ntmps 0 [.d (.agg (enc Ty.term a)), .d (.agg (enc Ty.term b))]) (retF M_l21_and Tryz.f22.results.toList [.d])
theorem l21_and_in (a : Term) (b : Term) : l21_and_fn a b =
 some (R_l21_and (Term.mk (17 : Int) zeroVal (0 : Int) (0 : Int) (ByteArray.mk #[]) [(Term.ids a), (Term.ids b)] [] (1 : Int))) := by kernel_rfl
theorem l21_and_spec (a b : Term) (_h : WS .term a) (_h2 : WS .term b) : l21_and_fn a b = some (R_l21_and (l21_and a b)) := by rw [l21_and_in, Term.ids_eq, Term.ids_eq]; rfl
def F_l21_and : FnC Un := fun args => match args with
  | [x0, x1] => (dS .term x0).bind fun a => (dS .term x1).bind fun b => some ([], A_l21_and (l21_and a b), O_l21_and (l21_and a b))
  | _ => none
theorem ok_l21_and : FnOK 22 F_l21_and := by
  intro args ob rs os h hob
  unfold F_l21_and at h
  split at h
  · simp only [Option.bind_eq_some_iff, Option.some.injEq, Prod.mk.injEq] at h
    obtain ⟨a, e0, b, e1, rfl, rfl, rfl⟩ := h
    obtain rfl := dS_eq e0
    obtain rfl := dS_eq e1
    exact ⟨fn_contractF (M := M_l21_and) rfl (tbl_ok (l1 := []) (l2 := []) (l3 := []) (l4 := []) (l5 := []) trivial trivial trivial trivial trivial) Tryz.func22 (by kernel_rfl) N_l21_and 0 [.d] (fun hwf => (l21_and_spec a b (wfArg hwf (a := .d (.agg (enc Ty.term a))) (List.mem_of_getElem? (i := 0) rfl)) (wfArg hwf (a := .d (.agg (enc Ty.term b))) (List.mem_of_getElem? (i := 1) rfl)))), hasBody_of Tryz.func22 (by kernel_rfl) (by kernel_rfl)⟩
  · simp at h
def M_l21_awake : Mc Un := mach (tbl [(20, F_l21_col), (8, F_conj_Pair), (16, F_conj_Move), (22, F_l21_and), (12, F_conj_Split), (21, F_r21_List), (17, F_conj_Uses), (23, F_r14_Ints), (15, F_conj_Join), (24, F_value_Bool), (9, F_conj_Within)]) (tbl []) (tbl []) (tbl []) (tbl [])
def A_l21_awake (r : Bool) : List (A Un) := [.c (.s (.bool r))]
def O_l21_awake (_r : Bool) : List (Ob Un) := []
def R_l21_awake (r : Bool) : RF Un := (A_l21_awake r, O_l21_awake r)
def N_l21_awake : Nat → NS := fun l => (look l []).getD ⟨[], [], [], [], [], true⟩
def l21_awake_fn : Option (RF Un) := awf M_l21_awake N_l21_awake (bodyOf Tryz.f7) (entry Tryz.f7.ntmps 0 []) (retF M_l21_awake Tryz.f7.results.toList [.d])
theorem l21_awake_in : l21_awake_fn =
 obO ((Term.mk (11 : Int) zeroVal (0 : Int) (0 : Int) (ByteArray.mk #[]) [(Term.ids (l21_col (0 : Int) (2 : Int))), (Term.ids (l21_col (0 : Int) (0 : Int)))] [] (1 : Int)).sz ≤ (2000000 : Nat))
  (obO ((Term.mk (11 : Int) zeroVal (0 : Int) (0 : Int) (ByteArray.mk #[]) [(Term.ids (l21_col (0 : Int) (2 : Int))), (Term.ids (l21_col (0 : Int) (0 : Int)))] [] (1 : Int)).sz ≤ (2000000 : Nat))
   (obO ((Term.mk (11 : Int) zeroVal (0 : Int) (0 : Int) (ByteArray.mk #[]) [(Term.ids (l21_col (0 : Int) (2 : Int))), (Term.ids (l21_col (0 : Int) (0 : Int)))] [] (1 : Int)).sz ≤ (2000000 : Nat))
    (obO ((Term.ids (l21_and (Term.ids (l21_and (Term.ids (l21_col (0 : Int) (0 : Int))) (Term.ids (l21_col (0 : Int) (1 : Int))))) (Term.ids (l21_col (0 : Int) (2 : Int))))).sz ≤ (2000000 : Nat))
     (cndO (r21_List (conj_Split (Term.ids (l21_and (Term.ids (l21_and (Term.ids (l21_col (0 : Int) (0 : Int))) (Term.ids (l21_col (0 : Int) (1 : Int))))) (Term.ids (l21_col (0 : Int) (2 : Int)))))) [(Term.ids (l21_col (0 : Int) (0 : Int))), (Term.ids (l21_col (0 : Int) (1 : Int))), (Term.ids (l21_col (0 : Int) (2 : Int)))])
      (obO (useOK (Term.ids (l21_and (Term.ids (l21_col (0 : Int) (1 : Int))) (Term.ids (l21_and (Term.ids (l21_col (0 : Int) (0 : Int))) (Term.ids (l21_col (0 : Int) (1 : Int))))))) (0 : Int))
       (cndO (r14_Ints (conj_Uses (Term.ids (l21_and (Term.ids (l21_col (0 : Int) (1 : Int))) (Term.ids (l21_and (Term.ids (l21_col (0 : Int) (0 : Int))) (Term.ids (l21_col (0 : Int) (1 : Int))))))) (0 : Int)) [(0 : Int), (1 : Int)])
        (cndO ((conj_Pair (Term.mk (11 : Int) zeroVal (0 : Int) (0 : Int) (ByteArray.mk #[]) [(Term.ids (l21_col (0 : Int) (2 : Int))), (Term.ids (l21_col (0 : Int) (0 : Int)))] [] (1 : Int)) (1 : Int)).snd.snd)
         (cndO ((conj_Pair (Term.mk (11 : Int) zeroVal (0 : Int) (0 : Int) (ByteArray.mk #[]) [(Term.ids (l21_col (0 : Int) (2 : Int))), (Term.ids (l21_col (0 : Int) (0 : Int)))] [] (1 : Int)) (1 : Int)).fst.at_ == 0)
          (cndO ((conj_Pair (Term.mk (11 : Int) zeroVal (0 : Int) (0 : Int) (ByteArray.mk #[]) [(Term.ids (l21_col (0 : Int) (2 : Int))), (Term.ids (l21_col (0 : Int) (0 : Int)))] [] (1 : Int)) (1 : Int)).snd.fst.at_ == 1)
           (cndO (!(conj_Pair (Term.mk (11 : Int) zeroVal (0 : Int) (0 : Int) (ByteArray.mk #[]) [(Term.ids (l21_col (0 : Int) (2 : Int))), (Term.ids (l21_col (0 : Int) (0 : Int)))] [] (1 : Int)) (0 : Int)).snd.snd)
            (cndO ((↑(conj_Move (Term.mk (11 : Int) zeroVal (0 : Int) (0 : Int) (ByteArray.mk #[]) [(Term.ids (l21_col (0 : Int) (2 : Int))), (Term.ids (l21_col (0 : Int) (0 : Int)))] [] (1 : Int)) (0 : Int) [(7 : Int)]).kids.length : Int) == (2 : Int))
             (obO ((0 : Int) ≤ (0 : Int) ∧ (0 : Int) < (↑(conj_Move (Term.mk (11 : Int) zeroVal (0 : Int) (0 : Int) (ByteArray.mk #[]) [(Term.ids (l21_col (0 : Int) (2 : Int))), (Term.ids (l21_col (0 : Int) (0 : Int)))] [] (1 : Int)) (0 : Int) [(7 : Int)]).kids.length : Int))
              (cndO (Term.at_ ((conj_Move (Term.mk (11 : Int) zeroVal (0 : Int) (0 : Int) (ByteArray.mk #[]) [(Term.ids (l21_col (0 : Int) (2 : Int))), (Term.ids (l21_col (0 : Int) (0 : Int)))] [] (1 : Int)) (0 : Int) [(7 : Int)]).kids.getD 0 zeroTerm) == 2)
               (obO ((0 : Int) ≤ (1 : Int) ∧ (1 : Int) < (↑(conj_Move (Term.mk (11 : Int) zeroVal (0 : Int) (0 : Int) (ByteArray.mk #[]) [(Term.ids (l21_col (0 : Int) (2 : Int))), (Term.ids (l21_col (0 : Int) (0 : Int)))] [] (1 : Int)) (0 : Int) [(7 : Int)]).kids.length : Int))
                (cndO (Term.at_ ((conj_Move (Term.mk (11 : Int) zeroVal (0 : Int) (0 : Int) (ByteArray.mk #[]) [(Term.ids (l21_col (0 : Int) (2 : Int))), (Term.ids (l21_col (0 : Int) (0 : Int)))] [] (1 : Int)) (0 : Int) [(7 : Int)]).kids.getD 1 zeroTerm) == 7)
                 (cndO (andB [EK.int IntKind.i64, EK.str] ((conj_Join []).v.kind == (value_Bool true).kind) (andB [EK.str] ((conj_Join []).v.n == (value_Bool true).n) (andB [] ((conj_Join []).v.s.toList == (value_Bool true).s.toList) true)))
                  (obO ((Term.mk (11 : Int) zeroVal (0 : Int) (0 : Int) (ByteArray.mk #[]) [(Term.ids (l21_col (0 : Int) (2 : Int))), (Term.ids (l21_col (0 : Int) (0 : Int)))] [] (1 : Int)).sz ≤ (2000000 : Nat))
                   (cndO (conj_Within (Term.mk (11 : Int) zeroVal (0 : Int) (0 : Int) (ByteArray.mk #[]) [(Term.ids (l21_col (0 : Int) (2 : Int))), (Term.ids (l21_col (0 : Int) (0 : Int)))] [] (1 : Int)) (0 : Int) (3 : Int))
                    (obO ((Term.mk (11 : Int) zeroVal (0 : Int) (0 : Int) (ByteArray.mk #[]) [(Term.ids (l21_col (0 : Int) (2 : Int))), (Term.ids (l21_col (0 : Int) (0 : Int)))] [] (1 : Int)).sz ≤ (2000000 : Nat))
                     (some (R_l21_awake (!conj_Within (Term.mk (11 : Int) zeroVal (0 : Int) (0 : Int) (ByteArray.mk #[]) [(Term.ids (l21_col (0 : Int) (2 : Int))), (Term.ids (l21_col (0 : Int) (0 : Int)))] [] (1 : Int)) (1 : Int) (3 : Int)))))
                    (some (R_l21_awake (false)))))
                  (some (R_l21_awake (false))))
                 (some (R_l21_awake (false)))))
               (some (R_l21_awake (false)))))
             (some (R_l21_awake (false))))
            (some (R_l21_awake (false))))
           (some (R_l21_awake (false))))
          (some (R_l21_awake (false))))
         (some (R_l21_awake (false))))
        (some (R_l21_awake (false)))))
      (some (R_l21_awake (false))))))) := by kernel_rfl
theorem cndO_t {α : Type} {b : Bool} (h : b = true) {x y : Option α} : cndO b x y = x := by rw [h]; rfl
def l21_awake : Bool := true
theorem l21_awake_spec : l21_awake_fn = some (R_l21_awake l21_awake) := by
  rw [l21_awake_in]
  simp only [Term.ids_eq]
  repeat (first
    | refine (obO_pos (by first | exact Nat.le_of_ble_eq_true (by kernel_rfl) | exact ⟨by decide, Nat.le_of_ble_eq_true (by kernel_rfl)⟩ | exact of_decide_eq_true (by kernel_rfl))).trans ?_
    | refine (cndO_t (by first | exact deq_iff.2 (by kernel_rfl) | kernel_rfl)).trans ?_)
  kernel_rfl
def F_l21_awake : FnC Un := fun args => match args with
  | [] => some ([], A_l21_awake (l21_awake), O_l21_awake (l21_awake))
  | _ => none
theorem ok_l21_awake : FnOK 7 F_l21_awake := by
  intro args ob rs os h hob
  unfold F_l21_awake at h
  split at h
  · simp only [Option.bind_eq_some_iff, Option.some.injEq, Prod.mk.injEq] at h
    obtain ⟨rfl, rfl, rfl⟩ := h
    exact ⟨fn_contractF (M := M_l21_awake) rfl (tbl_ok (l1 := [(20, F_l21_col), (8, F_conj_Pair), (16, F_conj_Move), (22, F_l21_and), (12, F_conj_Split), (21, F_r21_List), (17, F_conj_Uses), (23, F_r14_Ints), (15, F_conj_Join), (24, F_value_Bool), (9, F_conj_Within)]) (l2 := []) (l3 := []) (l4 := []) (l5 := []) ⟨ok_l21_col, ok_conj_Pair, ok_conj_Move, ok_l21_and, ok_conj_Split, ok_r21_List, ok_conj_Uses, ok_r14_Ints, ok_conj_Join, ok_value_Bool, ok_conj_Within, trivial⟩ trivial trivial trivial trivial) Tryz.func7 (by kernel_rfl) N_l21_awake 0 [.d] (fun hwf => (l21_awake_spec)), hasBody_of Tryz.func7 (by kernel_rfl) (by kernel_rfl)⟩
  · simp at h
theorem scanI_inr {σ ρ α : Type} {f : σ → Nat → α → σ ⊕ ρ} {P : ρ → Prop} (h : ∀ a i x r, f a i x = .inr r → P r) : ∀ (l : List α) (i : Nat) (a : σ) {r : ρ}, scanI f i l a = .inr r → P r
  | [], _, _, _, e => by simp [scanI] at e
  | x :: l, i, a, r, e => by
    simp only [scanI] at e
    split at e
    · exact scanI_inr h l _ _ e
    · rename_i hf; cases e; exact h _ _ _ _ hf
def M_l21_ConjWhole : Mc Un := mach (tbl [(6, F_l21_Large), (7, F_l21_awake), (12, F_conj_Split), (13, F_scalar_Truth), (14, F_tri_All), (15, F_conj_Join)]) (tbl []) (tbl []) (tbl []) (tbl [])
def A_l21_ConjWhole (r : Bool) : List (A Un) := [.c (.s (.bool r))]
def O_l21_ConjWhole (_r : Bool) : List (Ob Un) := []
def R_l21_ConjWhole (r : Bool) : RF Un := (A_l21_ConjWhole r, O_l21_ConjWhole r)
def N_l21_ConjWhole : Nat → NS := fun l => (look l [(7, { ts := bl 63 500, bs := bl 63 4, nm := [(.sl 5, 252), (.sl 6, 253), (.sl 7, 254)], cs := true })]).getD ⟨[], [], [], [], [], true⟩
def l21_ConjWhole_c1 (t : Term) := conj_Split (Term.mk t.op t.v t.depth t.at_ t.name t.kids t.sub t.type)
def l21_ConjWhole_s7 (t : Term) (row : List Val) (v0 : Int) (v1 : List Int) : S Un := (st 63 63 255 0 [(2, ax 2), (4, ab false), (5, ao 252), (6, ao 253), (7, ao 254), (8, ai v0)] [(2, bg .term t)] [(252, some ⟨(0 : Nat), Ty.row, [row], some (0 : Nat), true⟩), (253, some ⟨(0 : Nat), Ty.term, conj_Split (Term.ids t), none, true⟩), (254, some ⟨(0 : Nat), Ty.int, v1, some (0 : Nat), true⟩)])
def l21_ConjWhole_B7 : Code := sub (bodyOf Tryz.f4) [1, 1, 1, 1, 1, 0, 1, 2, 2]
def l21_ConjWhole_L7 : S Un → Option (EX Un) := loopF (N_l21_ConjWhole 7) (fun s Q => awf M_l21_ConjWhole N_l21_ConjWhole l21_ConjWhole_B7 s Q)
def l21_ConjWhole_C7 : Exit → S Un → Option (RF Un) := ctxF M_l21_ConjWhole N_l21_ConjWhole (bodyOf Tryz.f4) [1, 1, 1, 1, 1, 0, 1, 2] (retF M_l21_ConjWhole Tryz.f4.results.toList [.d])
def l21_ConjWhole_fn (t : Term) (row : List Val) : Option (RF Un) := awf M_l21_ConjWhole N_l21_ConjWhole (bodyOf Tryz.f4) (entry Tryz.f4.ntmps 3 [.d (.agg (enc Ty.term t)), .d (.v (.dat (U := Un) Ty.val row))]) (retF M_l21_ConjWhole Tryz.f4.results.toList [.d])
theorem l21_ConjWhole_in (t : Term) (row : List Val) : l21_ConjWhole_fn t row =
 cndO (l21_Large (Term.ids t))
  (some (R_l21_ConjWhole (l21_awake)))
  (obO ((Term.ids t).sz ≤ (2000000 : Nat))
   ((l21_ConjWhole_L7 (l21_ConjWhole_s7 t row (0 : Int) ([]))).bind (thenX l21_ConjWhole_C7))) := by kernel_rfl
theorem l21_ConjWhole_l7 (t : Term) (row : List Val) (v0 : Int) (v1 : List Int) : l21_ConjWhole_L7 (l21_ConjWhole_s7 t row v0 v1) =
 cndO (decide (v0 < (↑(l21_ConjWhole_c1 t).length : Int)))
  (obO (0 ≤ v0 ∧ v0 < (↑(l21_ConjWhole_c1 t).length : Int))
   (obO ((Term.ids ((l21_ConjWhole_c1 t).getD v0.toNat zeroTerm)).sz ≤ (2000000 : Nat))
    (obO (strT (Term.ids ((l21_ConjWhole_c1 t).getD v0.toNat zeroTerm)))
     (obO (envOK [row])
      (obO ((v1.length + [scalar_Truth (Term.ids ((l21_ConjWhole_c1 t).getD v0.toNat zeroTerm)) [row]].length) * (8 : Nat) ≤ roomB)
       (obO (0 ≤ v0 ∧ v0 < (↑(l21_ConjWhole_c1 t).length : Int))
        (obO ((Term.ids ((l21_ConjWhole_c1 t).getD v0.toNat zeroTerm)).sz ≤ (2000000 : Nat))
         (cndO ((↑(conj_Split (Term.ids ((l21_ConjWhole_c1 t).getD v0.toNat zeroTerm))).length : Int) != (1 : Int))
          (some (.ret, (l21_ConjWhole_s7 t row v0 (v1 ++ [scalar_Truth (Term.ids ((l21_ConjWhole_c1 t).getD v0.toNat zeroTerm)) [row]]))))
          (l21_ConjWhole_L7 (l21_ConjWhole_s7 t row (IntKind.i64.wrap (v0 + 1)) (v1 ++ [scalar_Truth (Term.ids ((l21_ConjWhole_c1 t).getD v0.toNat zeroTerm)) [row]])))))))))))
  (some (.exit 0, (l21_ConjWhole_s7 t row v0 v1))) := (loopF_eq (N_l21_ConjWhole 7) l21_ConjWhole_B7 _).trans (by kernel_rfl)
theorem l21_ConjWhole_a7_x0 (t : Term) (row : List Val) (v0 : Int) (v1 : List Int) : l21_ConjWhole_C7 (.exit 0) (l21_ConjWhole_s7 t row v0 v1) =
 cndO (l21_awake)
  (cndO (decide ((↑(l21_ConjWhole_c1 t).length : Int) > (0 : Int)))
   (obO ((Term.ids t).sz ≤ (2000000 : Nat))
    (obO (strT (Term.ids t))
     (obO (envOK [row])
      (cndO (tri_All v1 == scalar_Truth (Term.ids t) [row])
       (obO ((Term.ids (conj_Join (l21_ConjWhole_c1 t))).sz ≤ (2000000 : Nat))
        (obO (strT (Term.ids (conj_Join (l21_ConjWhole_c1 t))))
         (obO (envOK [row])
          (obO ((Term.ids t).sz ≤ (2000000 : Nat))
           (obO (strT (Term.ids t))
            (obO (envOK [row])
             (some (R_l21_ConjWhole (scalar_Truth (Term.ids (conj_Join (l21_ConjWhole_c1 t))) [row] == scalar_Truth (Term.ids t) [row])))))))))
       (some (R_l21_ConjWhole (false)))))))
   (some (R_l21_ConjWhole (false))))
  (some (R_l21_ConjWhole (false))) := by kernel_rfl
def l21_ConjWhole (_t : Term) (_row : List Val) : Bool := true
theorem l21_ConjWhole_spec (t : Term) (row : List Val) (_ht : WS .term t) (_hr : WL .val row) (h1 : strT t) (h2 : envOK [row]) : l21_ConjWhole_fn t row = some (R_l21_ConjWhole (l21_ConjWhole t row)) := by
  rw [l21_ConjWhole_in]
  simp only [Term.ids_eq]
  by_cases hL : l21_Large t = true
  · rw [cndO_eq, if_pos hL]; rfl
  have hsz := large_sz hL
  have hc : l21_ConjWhole_c1 t = splitT t := by unfold l21_ConjWhole_c1; rw [term_eta, conj_Split_eq]
  have hlen := splitT_len t
  have hss := splitT_sz t
  have hpos := split_pos t
  obtain ⟨lp, _⟩ := loop_fold (e := .exit 0) (L := l21_ConjWhole_L7) (st := fun (o : List Int) i => l21_ConjWhole_s7 t row i o) (l := splitT t) (d := zeroTerm) (g := fun o x => o ++ [scalar_Truth x [row]]) (fun i o => o.length = i) (by omega)
    (fun o i x hi hx hI => by
      have hI' : o.length = i := hI
      have hmem : x ∈ splitT t := by rw [← hx, List.getD_eq_getElem?_getD, List.getElem?_eq_getElem (by omega)]; exact List.getElem_mem _
      refine ⟨by show (o ++ [_]).length = i + 1; rw [List.length_append, List.length_singleton]; omega, ?_⟩
      have hxs := szTs_mem hmem
      have h1l := split_one t x hmem
      rw [l21_ConjWhole_l7]
      simp only [hc, cndO_eq, hi, decide_true, if_true, and_true, Int.toNat_natCast, hx, Term.ids_eq]
      rw [obO_pos (by omega), obO_pos (by omega), obO_pos (split_str t h1 x hmem), obO_pos h2, obO_pos (by unfold roomB; rw [List.length_singleton]; omega), obO_pos (by omega), obO_pos (by omega), if_neg (by rw [conj_Split_eq, h1l]; decide)])
    (fun o _ => by rw [l21_ConjWhole_l7, hc]; simp [cndO_eq]) [] rfl
  rw [snoc_fold, List.nil_append] at lp
  rw [cndO_eq, if_neg hL, obO_pos (by omega)]
  refine (loop_end lp).trans ?_
  have htr : (splitT t).map (fun x => scalar_Truth x [row]) = (splitT t).map (truthG scalar_Apply [row]) := List.map_congr_left fun x _ => truth_G x [row]
  have e1 : tri_All ((splitT t).map (fun x => scalar_Truth x [row])) = scalar_Truth t [row] := by
    rw [htr, tri_All_G, split_truth and_ap t 2 (by omega), truth_G]
    rcases truthG_range (ap := scalar_Apply) (env := [row]) t with h | h | h <;> rw [h] <;> rfl
  have e2 : scalar_Truth (joinT (splitT t)) [row] = scalar_Truth t [row] := by rw [truth_G, truth_G, whole_join and_ap]
  have hjs := join_sz (splitT t)
  rw [l21_ConjWhole_a7_x0, hc]
  simp only [Term.ids_eq, conj_Join_eq, e1, e2]
  rw [cndO_t (show l21_awake = true from rfl), cndO_t (decide_eq_true (by omega)), obO_pos (by omega), obO_pos h1, obO_pos h2, cndO_t (beq_self_eq_true _), obO_pos (by omega), obO_pos (join_str (split_str t h1)), obO_pos h2, obO_pos (by omega), obO_pos h1, obO_pos h2, beq_self_eq_true]
  rfl
def F_l21_ConjWhole : FnC Un := fun args => match args with
  | [x0, x1] => (dS .term x0).bind fun t => (dL .val x1).bind fun row => some ([strT t, envOK [row]], A_l21_ConjWhole (l21_ConjWhole t row), O_l21_ConjWhole (l21_ConjWhole t row))
  | _ => none
theorem ok_l21_ConjWhole : FnOK 4 F_l21_ConjWhole := by
  intro args ob rs os h hob
  unfold F_l21_ConjWhole at h
  split at h
  · simp only [Option.bind_eq_some_iff, Option.some.injEq, Prod.mk.injEq] at h
    obtain ⟨t, e0, row, e1, rfl, rfl, rfl⟩ := h
    obtain rfl := dS_eq e0
    obtain rfl := dL_eq e1
    exact ⟨fn_contractF (M := M_l21_ConjWhole) rfl (tbl_ok (l1 := [(6, F_l21_Large), (7, F_l21_awake), (12, F_conj_Split), (13, F_scalar_Truth), (14, F_tri_All), (15, F_conj_Join)]) (l2 := []) (l3 := []) (l4 := []) (l5 := []) ⟨ok_l21_Large, ok_l21_awake, ok_conj_Split, ok_scalar_Truth, ok_tri_All, ok_conj_Join, trivial⟩ trivial trivial trivial trivial) Tryz.func4 (by kernel_rfl) N_l21_ConjWhole 3 [.d] (fun hwf => (l21_ConjWhole_spec t row (wfArg hwf (a := .d (.agg (enc Ty.term t))) (List.mem_of_getElem? (i := 0) rfl)) (wfArg hwf (a := .d (.v (.dat (U := Un) Ty.val row))) (List.mem_of_getElem? (i := 1) rfl)) (hob _ (List.mem_of_getElem? (i := 0) rfl)) (hob _ (List.mem_of_getElem? (i := 1) rfl)))), hasBody_of Tryz.func4 (by kernel_rfl) (by kernel_rfl)⟩
  · simp at h
def M_l21_ConjMoves : Mc Un := mach (tbl [(6, F_l21_Large), (7, F_l21_awake), (16, F_conj_Move), (17, F_conj_Uses), (10, F_scalar_Eval), (18, F_algebra_SameTerm)]) (tbl []) (tbl []) (tbl []) (tbl [])
def A_l21_ConjMoves (r : Bool) : List (A Un) := [.c (.s (.bool r))]
def O_l21_ConjMoves (_r : Bool) : List (Ob Un) := []
def R_l21_ConjMoves (r : Bool) : RF Un := (A_l21_ConjMoves r, O_l21_ConjMoves r)
def N_l21_ConjMoves : Nat → NS := fun l => (look l [(7, { ts := bl 124 1998, bs := bl 124 8, nm := [(.sl 7, 496), (.sl 8, 497), (.sl 9, 498)], cs := true })]).getD ⟨[], [], [], [], [], true⟩
def l21_ConjMoves_c1 (t : Term) (order : List Int) := conj_Move (Term.mk t.op t.v t.depth t.at_ t.name t.kids t.sub t.type) (0 : Int) order
def l21_ConjMoves_c2 (t : Term) (row : List Val) := scalar_Eval (Term.mk t.op t.v t.depth t.at_ t.name t.kids t.sub t.type) [row]
def l21_ConjMoves_c3 (t : Term) (order : List Int) (v3 : List Val) := scalar_Eval (Term.mk (l21_ConjMoves_c1 t order).op (l21_ConjMoves_c1 t order).v (l21_ConjMoves_c1 t order).depth (l21_ConjMoves_c1 t order).at_ (l21_ConjMoves_c1 t order).name (l21_ConjMoves_c1 t order).kids (l21_ConjMoves_c1 t order).sub (l21_ConjMoves_c1 t order).type) [v3]
def l21_ConjMoves_c4 (t : Term) (order : List Int) (v1 : List Int) := conj_Move (Term.mk (l21_ConjMoves_c1 t order).op (l21_ConjMoves_c1 t order).v (l21_ConjMoves_c1 t order).depth (l21_ConjMoves_c1 t order).at_ (l21_ConjMoves_c1 t order).name (l21_ConjMoves_c1 t order).kids (l21_ConjMoves_c1 t order).sub (l21_ConjMoves_c1 t order).type) (0 : Int) v1
def l21_ConjMoves_s7 (t : Term) (row : List Val) (order : List Int) (v0 : Int) (v1 : List Int) (v2 : List Bool) (v3 : List Val) : S Un := (st 124 124 499 0 [(1, al .val row), (2, al .int order), (3, ax 3), (6, ab false), (7, ao 496), (8, ao 497), (9, ao 498), (10, ai v0)] [(3, bg .term t)] [(496, some ⟨(0 : Nat), Ty.int, v1, some (0 : Nat), true⟩), (497, some ⟨(0 : Nat), Ty.bol, v2, some (0 : Nat), true⟩), (498, some ⟨(0 : Nat), Ty.val, v3, some (0 : Nat), true⟩)])
def l21_ConjMoves_e7_ret (t : Term) (row : List Val) (order : List Int) (v0 : Int) (v1 : List Int) (v2 : List Bool) (v3 : List Val) (v4 : Bool) : S Un := (st 124 124 499 0 [(1, al .val row), (2, al .int order), (3, ax 3), (6, ab v4), (7, ao 496), (8, ao 497), (9, ao 498), (10, ai v0)] [(3, bg .term t)] [(496, some ⟨(0 : Nat), Ty.int, v1, some (0 : Nat), true⟩), (497, some ⟨(0 : Nat), Ty.bol, v2, some (0 : Nat), true⟩), (498, some ⟨(0 : Nat), Ty.val, v3, some (0 : Nat), true⟩)])
def l21_ConjMoves_B7 : Code := sub (bodyOf Tryz.f5) [1, 1, 1, 1, 1, 0, 1, 2, 2]
def l21_ConjMoves_L7 : S Un → Option (EX Un) := loopF (N_l21_ConjMoves 7) (fun s Q => awf M_l21_ConjMoves N_l21_ConjMoves l21_ConjMoves_B7 s Q)
def l21_ConjMoves_C7 : Exit → S Un → Option (RF Un) := ctxF M_l21_ConjMoves N_l21_ConjMoves (bodyOf Tryz.f5) [1, 1, 1, 1, 1, 0, 1, 2] (retF M_l21_ConjMoves Tryz.f5.results.toList [.d])
def l21_ConjMoves_fn (t : Term) (row : List Val) (order : List Int) : Option (RF Un) := awf M_l21_ConjMoves N_l21_ConjMoves (bodyOf Tryz.f5) (entry Tryz.f5.ntmps 3 [.d (.agg (enc Ty.term t)), .d (.v (.dat (U := Un) Ty.val row)), .d (.v (.dat (U := Un) Ty.int order))]) (retF M_l21_ConjMoves Tryz.f5.results.toList [.d])
theorem l21_ConjMoves_in (t : Term) (row : List Val) (order : List Int) : l21_ConjMoves_fn t row order =
 cndO (l21_Large (Term.ids t))
  (some (R_l21_ConjMoves (l21_awake)))
  (cndO ((↑order.length : Int) != (↑row.length : Int))
   (some (R_l21_ConjMoves (l21_awake)))
   (cndO (decide ((↑row.length : Int) > (50 : Int)))
    (some (R_l21_ConjMoves (l21_awake)))
    (obO ((0 : Int) ≤ (↑order.length : Int) ∧ (↑order.length : Int) ≤ (↑order.length : Int) ∧ (↑order.length : Int).toNat * (8 : Nat) ≤ roomB)
     (obO ((0 : Int) ≤ (↑order.length : Int) ∧ (↑order.length : Int) ≤ (↑order.length : Int) ∧ (↑order.length : Int).toNat * (1 : Nat) ≤ roomB)
      (obO ((0 : Int) ≤ (↑order.length : Int) ∧ (↑order.length : Int) ≤ (↑order.length : Int) ∧ (↑order.length : Int).toNat * (32 : Nat) ≤ roomB)
       ((l21_ConjMoves_L7 (l21_ConjMoves_s7 t row order (0 : Int) (List.replicate (↑order.length : Int).toNat (0 : Int)) (List.replicate (↑order.length : Int).toNat false) (List.replicate (↑order.length : Int).toNat zeroVal))).bind (thenX l21_ConjMoves_C7))))))) := by kernel_rfl
theorem l21_ConjMoves_l7 (t : Term) (row : List Val) (order : List Int) (v0 : Int) (v1 : List Int) (v2 : List Bool) (v3 : List Val) : l21_ConjMoves_L7 (l21_ConjMoves_s7 t row order v0 v1 v2 v3) =
 cndO (decide (v0 < (↑order.length : Int)))
  (obO (0 ≤ v0 ∧ v0 < (↑order.length : Int))
   (cndO (decide (order.getD v0.toNat (0 : Int) < (0 : Int)))
    (some (.ret, (l21_ConjMoves_e7_ret t row order v0 v1 v2 v3 l21_awake)))
    (obO (0 ≤ v0 ∧ v0 < (↑order.length : Int))
     (cndO (decide (order.getD v0.toNat (0 : Int) ≥ (↑order.length : Int)))
      (some (.ret, (l21_ConjMoves_e7_ret t row order v0 v1 v2 v3 l21_awake)))
      (obO (0 ≤ v0 ∧ v0 < (↑order.length : Int))
       (obO (0 ≤ order.getD v0.toNat (0 : Int) ∧ order.getD v0.toNat (0 : Int) < (↑v2.length : Int))
        (cndO (v2.getD (Int.toNat (order.getD v0.toNat (0 : Int))) false)
         (some (.ret, (l21_ConjMoves_e7_ret t row order v0 v1 v2 v3 l21_awake)))
         (obO (0 ≤ v0 ∧ v0 < (↑order.length : Int))
          (obO (0 ≤ order.getD v0.toNat (0 : Int) ∧ order.getD v0.toNat (0 : Int) < (↑v2.length : Int))
           (obO ((0 : Nat) ≤ Int.toNat (order.getD v0.toNat (0 : Int)))
            (obO (0 ≤ v0 ∧ v0 < (↑order.length : Int))
             (obO (0 ≤ order.getD v0.toNat (0 : Int) ∧ order.getD v0.toNat (0 : Int) < (↑v1.length : Int))
              (obO ((0 : Nat) ≤ Int.toNat (order.getD v0.toNat (0 : Int)))
               (obO (0 ≤ v0 ∧ v0 < (↑order.length : Int))
                (obO (0 ≤ v0 ∧ v0 < (↑row.length : Int))
                 (obO (0 ≤ order.getD v0.toNat (0 : Int) ∧ order.getD v0.toNat (0 : Int) < (↑v3.length : Int))
                  (obO ((0 : Nat) ≤ Int.toNat (order.getD v0.toNat (0 : Int)))
                   (l21_ConjMoves_L7 (l21_ConjMoves_s7 t row order (IntKind.i64.wrap (v0 + 1)) (v1.set (Int.toNat (order.getD v0.toNat (0 : Int))) v0) (v2.set (Int.toNat (order.getD v0.toNat (0 : Int))) true) (v3.set (Int.toNat (order.getD v0.toNat (0 : Int))) (row.getD v0.toNat zeroVal)))))))))))))))))))))
  (some (.exit 0, (l21_ConjMoves_s7 t row order v0 v1 v2 v3))) := (loopF_eq (N_l21_ConjMoves 7) l21_ConjMoves_B7 _).trans (by kernel_rfl)
theorem l21_ConjMoves_a7_ret (t : Term) (row : List Val) (order : List Int) (v0 : Int) (v1 : List Int) (v2 : List Bool) (v3 : List Val) (v4 : Bool) : l21_ConjMoves_C7 .ret (l21_ConjMoves_e7_ret t row order v0 v1 v2 v3 v4) =
 some (R_l21_ConjMoves (v4)) := by kernel_rfl
theorem l21_ConjMoves_a7_x0 (t : Term) (row : List Val) (order : List Int) (v0 : Int) (v1 : List Int) (v2 : List Bool) (v3 : List Val) : l21_ConjMoves_C7 (.exit 0) (l21_ConjMoves_s7 t row order v0 v1 v2 v3) =
 obO ((Term.ids t).sz ≤ (2000000 : Nat))
  (obO (useOK (Term.ids t) (0 : Int))
   (obO (useOK (Term.ids (l21_ConjMoves_c1 t order)) (0 : Int))
    (cndO (l21_awake)
     (obO ((Term.ids (l21_ConjMoves_c1 t order)).sz ≤ (2000000 : Nat))
      (obO (strT (Term.ids (l21_ConjMoves_c1 t order)))
       (obO (envOK [v3])
        (obO ((Term.ids t).sz ≤ (2000000 : Nat))
         (obO (strT (Term.ids t))
          (obO (envOK [row])
           (cndO (andB [EK.int IntKind.i64, EK.str] ((l21_ConjMoves_c3 t order v3).kind == (l21_ConjMoves_c2 t row).kind) (andB [EK.str] ((l21_ConjMoves_c3 t order v3).n == (l21_ConjMoves_c2 t row).n) (andB [] ((l21_ConjMoves_c3 t order v3).s.toList == (l21_ConjMoves_c2 t row).s.toList) true)))
            (cndO ((↑(conj_Uses (Term.ids t) (0 : Int)).length : Int) == (↑(conj_Uses (Term.ids (l21_ConjMoves_c1 t order)) (0 : Int)).length : Int))
             (obO ((Term.ids (l21_ConjMoves_c1 t order)).sz ≤ (2000000 : Nat))
              (some (R_l21_ConjMoves (algebra_SameTerm (Term.ids (l21_ConjMoves_c4 t order v1)) (Term.ids t)))))
             (some (R_l21_ConjMoves (false))))
            (some (R_l21_ConjMoves (false))))))))))
     (some (R_l21_ConjMoves (false)))))) := by kernel_rfl
def l21_ConjMoves (_t : Term) (_row : List Val) (_order : List Int) : Bool := true
structure MovI (order : List Int) (row : List Val) (i : Nat) (s : List Int × List Bool × List Val) : Prop where
  hb : s.1.length = order.length
  ht : s.2.1.length = order.length
  hm : s.2.2.length = order.length
  ho : ∀ j, j < i → 0 ≤ order.getD j 0 ∧ order.getD j 0 < (order.length : Int)
  hk : ∀ j, j < i → s.1.getD (order.getD j 0).toNat 0 = (j : Int)
  hs : ∀ j, j < i → s.2.1.getD (order.getD j 0).toNat false = true
  hv : ∀ j, j < i → s.2.2.getD (order.getD j 0).toNat zeroVal = row.getD j zeroVal
theorem getDset {α : Type} {l : List α} {i k : Nat} {x d : α} (hi : i < l.length) : (l.set i x).getD k d = if k = i then x else l.getD k d := by
  rw [List.getD_eq_getElem?_getD, List.getD_eq_getElem?_getD, List.getElem?_set]
  by_cases h : k = i
  · subst h; rw [if_pos rfl, if_pos rfl, if_pos hi]; rfl
  · rw [if_neg h, if_neg (fun e => h e.symm)]
theorem MovI.step {order : List Int} {row : List Val} {i : Nat} {s : List Int × List Bool × List Val} (h : MovI order row i s) {x : Int} (hx : order.getD i 0 = x) (h0 : 0 ≤ x) (h1 : x < (order.length : Int)) (hn : s.2.1.getD x.toNat false = false) :
    MovI order row (i + 1) (s.1.set x.toNat (i : Int), s.2.1.set x.toNat true, s.2.2.set x.toNat (row.getD i zeroVal)) := by
  obtain ⟨hb, ht, hm, ho, hk, hs, hv⟩ := h
  have lx : x.toNat < order.length := by omega
  have ne : ∀ j, j < i → (order.getD j 0).toNat ≠ x.toNat := fun j hj e => by
    have := hs j hj
    rw [e, hn] at this; simp at this
  refine ⟨by simpa using hb, by simpa using ht, by simpa using hm, fun j hj => ?_, fun j hj => ?_, fun j hj => ?_, fun j hj => ?_⟩
  · by_cases e : j = i
    · rw [e, hx]; exact ⟨h0, h1⟩
    · exact ho j (by omega)
  · by_cases e : j = i
    · rw [e, hx, getDset (by omega), if_pos rfl]
    · rw [getDset (by omega), if_neg (ne j (by omega))]; exact hk j (by omega)
  · by_cases e : j = i
    · rw [e, hx, getDset (by omega), if_pos rfl]
    · rw [getDset (by omega), if_neg (ne j (by omega))]; exact hs j (by omega)
  · by_cases e : j = i
    · rw [e, hx, getDset (by omega), if_pos rfl]
    · rw [getDset (by omega), if_neg (ne j (by omega))]; exact hv j (by omega)
def movF (t : Term) (row : List Val) (order : List Int) (s : List Int × List Bool × List Val) (i : Nat) (x : Int) : (List Int × List Bool × List Val) ⊕ EX Un :=
  if x < 0 ∨ x ≥ (order.length : Int) ∨ s.2.1.getD x.toNat false = true then .inr (.ret, l21_ConjMoves_e7_ret t row order (i : Int) s.1 s.2.1 s.2.2 l21_awake)
  else .inl (s.1.set x.toNat (i : Int), s.2.1.set x.toNat true, s.2.2.set x.toNat (row.getD i zeroVal))
theorem short_set {l : List Val} (h : ∀ x ∈ l, shortV x) {v : Val} (hv : shortV v) (i : Nat) : ∀ x ∈ l.set i v, shortV x := by
  intro x hx
  rcases List.mem_or_eq_of_mem_set hx with e | e
  · exact h x e
  · rw [e]; exact hv
theorem l21_ConjMoves_spec (t : Term) (row : List Val) (order : List Int) (ht : WS .term t) (hr : WL .val row) (hw : WL .int order) (h1 : strT t) (h2 : envOK [row]) : l21_ConjMoves_fn t row order = some (R_l21_ConjMoves (l21_ConjMoves t row order)) := by
  rw [l21_ConjMoves_in]
  simp only [Term.ids_eq]
  by_cases hL : l21_Large t = true
  · rw [cndO_eq, if_pos hL]; rfl
  have hsz := large_sz hL
  rw [cndO_eq, if_neg hL]
  by_cases hn : order.length = row.length
  rotate_left
  · rw [cndO_eq, if_pos (by simp; omega)]; rfl
  rw [cndO_eq, if_neg (by simp; omega)]
  by_cases h50 : row.length > 50
  · rw [cndO_eq, if_pos (by rw [decide_eq_true_eq]; omega)]; rfl
  rw [cndO_eq, if_neg (by rw [decide_eq_true_eq]; omega), Int.toNat_natCast]
  have hrow : ∀ x ∈ row, shortV x := h2 row (by simp)
  have lp := loop_scan (e := .exit 0) (L := l21_ConjMoves_L7) (st := fun (s : List Int × List Bool × List Val) i => l21_ConjMoves_s7 t row order i s.1 s.2.1 s.2.2) (l := order) (d := 0) (f := movF t row order) (fun i s => MovI order row i s ∧ ∀ x ∈ s.2.2, shortV x) (by omega)
    (fun s i x hi hx hI => by
      obtain ⟨hI, hsh⟩ := hI
      have e := l21_ConjMoves_l7 t row order (i : Int) s.1 s.2.1 s.2.2
      simp only [cndO_eq, hi, decide_true, if_true, and_true, Int.toNat_natCast, hx, decide_eq_true_eq] at e
      have hb := hI.hb; have hht := hI.ht; have hm := hI.hm
      rw [obO_pos (by omega)] at e
      by_cases c : x < 0 ∨ x ≥ (order.length : Int) ∨ s.2.1.getD x.toNat false = true
      · have hf : movF t row order s i x = .inr (.ret, l21_ConjMoves_e7_ret t row order (i : Int) s.1 s.2.1 s.2.2 l21_awake) := by unfold movF; rw [if_pos c]
        rw [hf]
        show l21_ConjMoves_L7 _ = _
        rw [e]
        by_cases c1 : x < 0
        · rw [if_pos c1]
        · rw [if_neg c1, obO_pos (by omega)]
          by_cases c2 : x ≥ (order.length : Int)
          · rw [if_pos c2]
          · have c3 : s.2.1.getD x.toNat false = true := by
              rcases c with c | c | c
              · exact absurd c c1
              · exact absurd c c2
              · exact c
            have c3' : s.2.1.getD x.toNat false = true := c3
            rw [if_neg c2, obO_pos (by omega), obO_pos (by omega), if_pos c3']
      · have hf : movF t row order s i x = .inl (s.1.set x.toNat (i : Int), s.2.1.set x.toNat true, s.2.2.set x.toNat (row.getD i zeroVal)) := by unfold movF; rw [if_neg c]
        rw [hf]
        simp only [not_or] at c
        obtain ⟨c1, c2, c3⟩ := c
        have c3' : ¬ s.2.1.getD x.toNat false = true := c3
        refine ⟨⟨hI.step hx (by omega) (by omega) (by simpa using c3), short_set hsh (short_getD hrow _) _⟩, ?_⟩
        show l21_ConjMoves_L7 _ = _
        rw [e, if_neg c1, obO_pos (by omega), if_neg c2, obO_pos (by omega), obO_pos (by omega), if_neg c3']
        repeat rw [obO_pos (by omega)])
    (fun s _ => by
      show l21_ConjMoves_L7 _ = _
      rw [l21_ConjMoves_l7]; simp [cndO_eq]) (List.replicate order.length 0, List.replicate order.length false, List.replicate order.length zeroVal)
    ⟨⟨by simp, by simp, by simp, fun j hj => by omega, fun j hj => by omega, fun j hj => by omega, fun j hj => by omega⟩, fun x hx => by rw [List.eq_of_mem_replicate hx]; exact short_zero⟩
  rw [obO_pos (by unfold roomB; omega), obO_pos (by unfold roomB; omega), obO_pos (by unfold roomB; omega)]
  split at lp
  · rename_i s hsc
    obtain ⟨lp, hI, hsh⟩ := lp
    refine (loop_end lp).trans ?_
    have hO : Order order.length order s.1 row s.2.2 := ⟨rfl, hI.hb, hn.symm, hI.hm, hI.ho, hI.hk, hI.hv⟩
    have c1e : l21_ConjMoves_c1 t order = moveA t 0 order := by unfold l21_ConjMoves_c1; rw [term_eta, conj_Move_eq]
    have c2e : l21_ConjMoves_c2 t row = evalG scalar_Apply [row] t := by unfold l21_ConjMoves_c2; rw [term_eta]; rfl
    have c3e : l21_ConjMoves_c3 t order s.2.2 = evalG scalar_Apply [row] t := by unfold l21_ConjMoves_c3; rw [term_eta, c1e]; exact hO.eval scalar_Apply t
    have c4e : l21_ConjMoves_c4 t order s.1 = t := by unfold l21_ConjMoves_c4; rw [term_eta, c1e, conj_Move_eq]; exact hO.back t
    have hu := hO.uses (DT_of t ht) (by omega)
    have hms := move_sz t 0 order
    show l21_ConjMoves_C7 (.exit 0) _ = _
    rw [l21_ConjMoves_a7_x0, c1e, c2e, c3e, c4e]
    simp only [Term.ids_eq, conj_Uses_eq, eqVal, hu]
    rw [obO_pos (by omega), obO_pos (show useOK t 0 from ⟨by omega, by omega⟩), obO_pos (show useOK _ 0 from ⟨by omega, by omega⟩), cndO_t (show l21_awake = true from rfl), obO_pos (by omega), obO_pos (move_str 0 order h1), obO_pos (by intro r hr; rw [List.mem_singleton] at hr; rw [hr]; exact hsh), obO_pos (by omega), obO_pos h1, obO_pos h2,
      cndO_t (deq_iff.2 rfl), cndO_t (beq_self_eq_true _), obO_pos (by omega)]
    have : algebra_SameTerm t t = true := deq_iff.2 rfl
    rw [this]
    rfl
  · rename_i r hsc
    have hr : ∃ v0 v1 v2 v3, r = (.ret, l21_ConjMoves_e7_ret t row order v0 v1 v2 v3 l21_awake) := by
      refine scanI_inr (P := fun r => ∃ v0 v1 v2 v3, r = (.ret, l21_ConjMoves_e7_ret t row order v0 v1 v2 v3 l21_awake)) (fun a i x r hf => ?_) order 0 _ hsc
      unfold movF at hf
      split at hf
      · cases hf; exact ⟨_, _, _, _, rfl⟩
      · cases hf
    obtain ⟨v0, v1, v2, v3, rfl⟩ := hr
    refine (loop_end lp).trans ?_
    rw [l21_ConjMoves_a7_ret]
    rfl
def F_l21_ConjMoves : FnC Un := fun args => match args with
  | [x0, x1, x2] => (dS .term x0).bind fun t => (dL .val x1).bind fun row => (dL .int x2).bind fun order => some ([strT t, envOK [row]], A_l21_ConjMoves (l21_ConjMoves t row order), O_l21_ConjMoves (l21_ConjMoves t row order))
  | _ => none
theorem ok_l21_ConjMoves : FnOK 5 F_l21_ConjMoves := by
  intro args ob rs os h hob
  unfold F_l21_ConjMoves at h
  split at h
  · simp only [Option.bind_eq_some_iff, Option.some.injEq, Prod.mk.injEq] at h
    obtain ⟨t, e0, row, e1, order, e2, rfl, rfl, rfl⟩ := h
    obtain rfl := dS_eq e0
    obtain rfl := dL_eq e1
    obtain rfl := dL_eq e2
    exact ⟨fn_contractF (M := M_l21_ConjMoves) rfl (tbl_ok (l1 := [(6, F_l21_Large), (7, F_l21_awake), (16, F_conj_Move), (17, F_conj_Uses), (10, F_scalar_Eval), (18, F_algebra_SameTerm)]) (l2 := []) (l3 := []) (l4 := []) (l5 := []) ⟨ok_l21_Large, ok_l21_awake, ok_conj_Move, ok_conj_Uses, ok_scalar_Eval, ok_algebra_SameTerm, trivial⟩ trivial trivial trivial trivial) Tryz.func5 (by kernel_rfl) N_l21_ConjMoves 3 [.d] (fun hwf => (l21_ConjMoves_spec t row order (wfArg hwf (a := .d (.agg (enc Ty.term t))) (List.mem_of_getElem? (i := 0) rfl)) (wfArg hwf (a := .d (.v (.dat (U := Un) Ty.val row))) (List.mem_of_getElem? (i := 1) rfl)) (wfArg hwf (a := .d (.v (.dat (U := Un) Ty.int order))) (List.mem_of_getElem? (i := 2) rfl)) (hob _ (List.mem_of_getElem? (i := 0) rfl)) (hob _ (List.mem_of_getElem? (i := 1) rfl)))), hasBody_of Tryz.func5 (by kernel_rfl) (by kernel_rfl)⟩
  · simp at h
def M_l21_ConjEqual : Mc Un := mach (tbl [(6, F_l21_Large), (7, F_l21_awake), (8, F_conj_Pair), (9, F_conj_Within), (10, F_scalar_Eval), (11, F_scalar_Apply)]) (tbl []) (tbl []) (tbl []) (tbl [])
def A_l21_ConjEqual (r : Bool) : List (A Un) := [.c (.s (.bool r))]
def O_l21_ConjEqual (_r : Bool) : List (Ob Un) := []
def R_l21_ConjEqual (r : Bool) : RF Un := (A_l21_ConjEqual r, O_l21_ConjEqual r)
def N_l21_ConjEqual : Nat → NS := fun l => (look l []).getD ⟨[], [], [], [], [], true⟩
def l21_ConjEqual_c1 (t : Term) (a : List Val) := conj_Pair (Term.mk t.op t.v t.depth t.at_ t.name t.kids t.sub t.type) (↑a.length : Int)
def l21_ConjEqual_c2 (t : Term) (a : List Val) (b : List Val) := scalar_Eval (Term.mk t.op t.v t.depth t.at_ t.name t.kids t.sub t.type) [[] ++ a ++ b]
def l21_ConjEqual_c3 (t : Term) (a : List Val) := scalar_Eval (Term.mk (l21_ConjEqual_c1 t a).fst.op (l21_ConjEqual_c1 t a).fst.v (l21_ConjEqual_c1 t a).fst.depth (l21_ConjEqual_c1 t a).fst.at_ (l21_ConjEqual_c1 t a).fst.name (l21_ConjEqual_c1 t a).fst.kids (l21_ConjEqual_c1 t a).fst.sub (l21_ConjEqual_c1 t a).fst.type) [a]
def l21_ConjEqual_c4 (t : Term) (a : List Val) (b : List Val) := scalar_Eval (Term.mk (l21_ConjEqual_c1 t a).snd.fst.op (l21_ConjEqual_c1 t a).snd.fst.v (l21_ConjEqual_c1 t a).snd.fst.depth (l21_ConjEqual_c1 t a).snd.fst.at_ (l21_ConjEqual_c1 t a).snd.fst.name (l21_ConjEqual_c1 t a).snd.fst.kids (l21_ConjEqual_c1 t a).snd.fst.sub (l21_ConjEqual_c1 t a).snd.fst.type) [b]
def l21_ConjEqual_c5 (t : Term) (a : List Val) (b : List Val) := scalar_Apply (11 : Int) (ByteArray.mk #[]) [(l21_ConjEqual_c3 t a), (l21_ConjEqual_c4 t a b)]
def l21_ConjEqual_fn (t : Term) (a : List Val) (b : List Val) : Option (RF Un) := awf M_l21_ConjEqual N_l21_ConjEqual (bodyOf Tryz.f3) (entry Tryz.f3.ntmps 0 [.d (.agg (enc Ty.term t)), .d (.v (.dat (U := Un) Ty.val a)), .d (.v (.dat (U := Un) Ty.val b))]) (retF M_l21_ConjEqual Tryz.f3.results.toList [.d])
theorem l21_ConjEqual_in (t : Term) (a : List Val) (b : List Val) : l21_ConjEqual_fn t a b =
 cndO (l21_Large (Term.ids t))
  (some (R_l21_ConjEqual (l21_awake)))
  (cndO (decide (IntKind.i64.wrap ((↑a.length : Int) + (↑b.length : Int)) > 50))
   (some (R_l21_ConjEqual (l21_awake)))
   (obO ((Term.ids t).sz ≤ (2000000 : Nat))
    (cndO (!(l21_ConjEqual_c1 t a).snd.snd)
     (some (R_l21_ConjEqual (l21_awake)))
     (obO ((0 + a.length) * (32 : Nat) ≤ roomB)
      (obO (((a).length + b.length) * (32 : Nat) ≤ roomB)
       (obO ((Term.ids t).sz ≤ (2000000 : Nat))
        (cndO (!conj_Within (Term.ids t) (0 : Int) (↑(a ++ b).length : Int))
         (some (R_l21_ConjEqual (l21_awake)))
         (obO ((Term.ids ((l21_ConjEqual_c1 t a).fst)).sz ≤ (2000000 : Nat))
          (obO (strT (Term.ids ((l21_ConjEqual_c1 t a).fst)))
           (obO (envOK [a])
            (obO ((Term.ids ((l21_ConjEqual_c1 t a).snd.fst)).sz ≤ (2000000 : Nat))
             (obO (strT (Term.ids ((l21_ConjEqual_c1 t a).snd.fst)))
              (obO (envOK [b])
               (cndO (l21_awake)
                (obO (txts [(l21_ConjEqual_c3 t a), (l21_ConjEqual_c4 t a b)])
                 (obO ((Term.ids t).sz ≤ (2000000 : Nat))
                  (obO (strT (Term.ids t))
                   (obO (envOK [[] ++ a ++ b])
                    (cndO (andB [EK.int IntKind.i64, EK.str] ((l21_ConjEqual_c5 t a b).kind == (l21_ConjEqual_c2 t a b).kind) (andB [EK.str] ((l21_ConjEqual_c5 t a b).n == (l21_ConjEqual_c2 t a b).n) (andB [] ((l21_ConjEqual_c5 t a b).s.toList == (l21_ConjEqual_c2 t a b).s.toList) true)))
                     (obO ((Term.ids ((l21_ConjEqual_c1 t a).fst)).sz ≤ (2000000 : Nat))
                      (cndO (conj_Within (Term.ids ((l21_ConjEqual_c1 t a).fst)) (0 : Int) (↑a.length : Int))
                       (obO ((Term.ids ((l21_ConjEqual_c1 t a).snd.fst)).sz ≤ (2000000 : Nat))
                        (some (R_l21_ConjEqual (conj_Within (Term.ids ((l21_ConjEqual_c1 t a).snd.fst)) (0 : Int) (↑b.length : Int)))))
                       (some (R_l21_ConjEqual (false)))))
                     (some (R_l21_ConjEqual (false))))))))
                (some (R_l21_ConjEqual (false))))))))))))))))) := by kernel_rfl
def l21_ConjEqual (_t : Term) (_a _b : List Val) : Bool := true
theorem l21_ConjEqual_spec (t : Term) (a b : List Val) (ht : WS .term t) (_ha : WL .val a) (_hb : WL .val b) (h1 : strT t) (h2 : envOK [a]) (h3 : envOK [b]) (h4 : a.length ≤ 2000000) (h5 : b.length ≤ 2000000) : l21_ConjEqual_fn t a b = some (R_l21_ConjEqual (l21_ConjEqual t a b)) := by
  rw [l21_ConjEqual_in]
  simp only [Term.ids_eq]
  by_cases hL : l21_Large t = true
  · rw [cndO_eq, if_pos hL]; rfl
  have hsz := large_sz hL
  have hla := _ha.len
  have hlb := _hb.len
  rw [cndO_eq, if_neg hL]
  by_cases h50 : IntKind.i64.wrap ((a.length : Int) + (b.length : Int)) > 50
  · rw [cndO_eq, if_pos (decide_eq_true h50)]; rfl
  rw [cndO_eq, if_neg (fun e => h50 (of_decide_eq_true e)), obO_pos (by omega)]
  have c1e : l21_ConjEqual_c1 t a = pairA t (a.length : Int) := by unfold l21_ConjEqual_c1; rw [term_eta, conj_Pair_eq]
  have hall : ∀ x ∈ a ++ b, shortV x := fun x hx => by
    rcases List.mem_append.1 hx with hx | hx
    · exact h2 a (by simp) x hx
    · exact h3 b (by simp) x hx
  rw [c1e]
  by_cases hp : (pairA t (a.length : Int)).2.2 = true
  rotate_left
  · rw [cndO_eq, if_pos (by simpa using hp)]; rfl
  rw [cndO_eq, if_neg (by simpa using hp)]
  have hsum : a.length + b.length ≤ 50 := by
    rw [wrap_id (by omega)] at h50; omega
  have hpp := pair_parts h1 hp
  have c2e : l21_ConjEqual_c2 t a b = evalG scalar_Apply [a ++ b] t := by unfold l21_ConjEqual_c2; rw [term_eta]; rfl
  have c3e : l21_ConjEqual_c3 t a = evalG scalar_Apply [a] (pairA t (a.length : Int)).1 := by unfold l21_ConjEqual_c3; rw [term_eta, c1e]; rfl
  have c4e : l21_ConjEqual_c4 t a b = evalG scalar_Apply [b] (pairA t (a.length : Int)).2.1 := by unfold l21_ConjEqual_c4; rw [term_eta, c1e]; rfl
  have hab : envOK [[] ++ a ++ b] := by intro r hr; rw [List.mem_singleton] at hr; rw [hr]; exact hall
  rw [obO_pos (by unfold roomB; omega), obO_pos (by unfold roomB; omega), obO_pos (by omega)]
  simp only [conj_Within_eq, List.length_append]
  by_cases hin : withinA t 0 ((a.length + b.length : Nat) : Int) = true
  rotate_left
  · rw [cndO_eq, if_pos (by simpa using hin)]; rfl
  have pe := pair_equal eq_ap a b (DT_of t ht) (by omega) hsum hp hin
  have c5e : l21_ConjEqual_c5 t a b = evalG scalar_Apply [a ++ b] t := by unfold l21_ConjEqual_c5; rw [c3e, c4e]; exact pe.1
  rw [cndO_eq, if_neg (by simpa using hin), obO_pos (by omega), obO_pos hpp.1.1, obO_pos h2, obO_pos (by omega), obO_pos hpp.1.2, obO_pos h3, cndO_t (show l21_awake = true from rfl),
    obO_pos (by
      rw [c3e, c4e]
      refine ⟨by simp, fun x hx => ?_⟩
      simp only [List.mem_cons, List.not_mem_nil, or_false] at hx
      rcases hx with rfl | rfl
      · exact short_eval h2 _ hpp.1.1
      · exact short_eval h3 _ hpp.1.2), obO_pos (by omega), obO_pos h1, obO_pos hab, eqVal, cndO_t (deq_iff.2 (by rw [c5e, c2e])), obO_pos (by omega), cndO_t pe.2.1, obO_pos (by omega), pe.2.2]
  rfl
def F_l21_ConjEqual : FnC Un := fun args => match args with
  | [x0, x1, x2] => (dS .term x0).bind fun t => (dL .val x1).bind fun a => (dL .val x2).bind fun b => some ([strT t, envOK [a], envOK [b], a.length ≤ 2000000, b.length ≤ 2000000], A_l21_ConjEqual (l21_ConjEqual t a b), O_l21_ConjEqual (l21_ConjEqual t a b))
  | _ => none
theorem ok_l21_ConjEqual : FnOK 3 F_l21_ConjEqual := by
  intro args ob rs os h hob
  unfold F_l21_ConjEqual at h
  split at h
  · simp only [Option.bind_eq_some_iff, Option.some.injEq, Prod.mk.injEq] at h
    obtain ⟨t, e0, a, e1, b, e2, rfl, rfl, rfl⟩ := h
    obtain rfl := dS_eq e0
    obtain rfl := dL_eq e1
    obtain rfl := dL_eq e2
    exact ⟨fn_contractF (M := M_l21_ConjEqual) rfl (tbl_ok (l1 := [(6, F_l21_Large), (7, F_l21_awake), (8, F_conj_Pair), (9, F_conj_Within), (10, F_scalar_Eval), (11, F_scalar_Apply)]) (l2 := []) (l3 := []) (l4 := []) (l5 := []) ⟨ok_l21_Large, ok_l21_awake, ok_conj_Pair, ok_conj_Within, ok_scalar_Eval, ok_scalar_Apply, trivial⟩ trivial trivial trivial trivial) Tryz.func3 (by kernel_rfl) N_l21_ConjEqual 0 [.d] (fun hwf => (l21_ConjEqual_spec t a b (wfArg hwf (a := .d (.agg (enc Ty.term t))) (List.mem_of_getElem? (i := 0) rfl)) (wfArg hwf (a := .d (.v (.dat (U := Un) Ty.val a))) (List.mem_of_getElem? (i := 1) rfl)) (wfArg hwf (a := .d (.v (.dat (U := Un) Ty.val b))) (List.mem_of_getElem? (i := 2) rfl)) (hob _ (List.mem_of_getElem? (i := 0) rfl)) (hob _ (List.mem_of_getElem? (i := 1) rfl)) (hob _ (List.mem_of_getElem? (i := 2) rfl)) (hob _ (List.mem_of_getElem? (i := 3) rfl)) (hob _ (List.mem_of_getElem? (i := 4) rfl)))), hasBody_of Tryz.func3 (by kernel_rfl) (by kernel_rfl)⟩
  · simp at h
end
end Go.Proofs.YtjmpnpkcgkhagaaGreat.B
namespace Go.Proofs.YtjmpnpkcgkhagaaGreat.conjWholeUpto
open Go.ChangeShapes Go.WideShapes Go.ChangeAt Go.RowKit
open Go Go.Proofs.YtjmpnpkcgkhagaaGreat.B
set_option linter.unusedVariables false
theorem own : ownKnob Tryz.prog.godebug = none := by kernel_rfl
set_option maxRecDepth 100000 in
theorem lifted (os : Os) (started : os.Started) (H : Type) (enc : TypeId × Value → H) (F : Stop.Interp) :
    ReturnsInHanded {} Tryz.checked os 4 .any ((Rows.OpenSpec.upto Rows.conjWholeSpec).pre6 enc Tryz.prog Tryz.f4 Rows.conjWholeUptoRow.domain false) (((Rows.OpenSpec.upto Rows.conjWholeSpec).at F).post enc Tryz.prog Tryz.f4 false true false false) := by
  refine returnsInHanded_of_cond (C := Tryz.checked) (s := Rows.OpenSpec.upto Rows.conjWholeSpec) (k := Rows.uptoSmall) rfl own started (by kernel_rfl) Tryz.func4
    (OpenSpec.witness (enc := enc) (C := Tryz.checked) (s := Rows.OpenSpec.upto Rows.conjWholeSpec) (k := Rows.uptoSmall) rfl false ⟨#[], #[.agg #[.int .i64 0, .int .i64 0, .int .i64 0, .string ⟨#[]⟩, .int .i64 0, .int .i64 0, .string ⟨#[]⟩, .slice none 0 0, .slice none 0 0, .int .i64 0], .slice none 0 0], []⟩ 12 (by kernel_rfl) (by kernel_rfl) (by kernel_rfl)
      (x := ([.agg [.lit (.int .i64 0), .agg [.lit (.int .i64 0), .lit (.int .i64 0), .lit (.string [])], .lit (.int .i64 0), .lit (.int .i64 0), .lit (.string []), .nil, .nil, .lit (.int .i64 0)], .nil], [], [])) (by kernel_rfl) rfl (by kernel_rfl)) ?_
  intro W base args ds gs before hval0 hW hcnd hk _
  have hval : ∀ (j : Nat) t v, Tryz.f4.params[j]? = some t → args[j]? = some v → Value.okWide Tryz.prog W .any base t v := hval0
  have hW2 := hW
  obtain ⟨p, q, hA0, hV, rfl, hfz, hnd⟩ := hW
  have hA : DataW.TrodAll enc Tryz.prog W 0 (fun _ => true) true Tryz.f4.params.toList args.toList ds p := hA0
  rw [Tryz.params4] at hA hval
  obtain ⟨v0, vs0, d0, ds0, p0, q0, hargs, rfl, rfl, h0, r0⟩ := trodAll_cons hA
  obtain ⟨v1, vs1, d1, ds1, p1, q1, rfl, rfl, rfl, h1, r1⟩ := trodAll_cons r0
  obtain ⟨rfl, rfl, rfl⟩ := trodAll_nil r1
  obtain rfl : args = #[v0, v1] := by cases args; simp_all
  obtain ⟨rfl, rfl⟩ := trodVars_none hV
  obtain ⟨a0, w0, -, b0⟩ := arg_stU .term (und_st (t := 27) (by kernel_rfl)).choose_spec (by kernel_rfl) (hval 0 27 v0 rfl rfl) h0
  obtain ⟨a1, w1, -, b1⟩ := arg_slU (tiL_sl (t := 29) (τ := .val) (by kernel_rfl)) (hval 1 29 v1 rfl rfl) h1
  have hsum : Rows.uptoBulkAll ([d0, d1] ++ []) ≤ 1048576 := of_decide_eq_true hk
  simp only [List.append_nil, Rows.uptoBulkAll] at hsum
  clear hA0 hval0
  simp only [List.append_nil] at hW2
  have hc := law_calls ok_l21_ConjWhole (args := [.d (.agg (B.enc Ty.term a0)), .d (.v (.dat (U := Un) Ty.val a1))]) (by
    unfold F_l21_ConjWhole
    simp only [dL_mk, dS_mk]
    rfl) (by
    intro p hp
    simp only [List.mem_cons, List.not_mem_nil, or_false] at hp
    have hsum2 := hsum
    rcases hp with rfl | rfl
    · exact bkStr a0 _ b0 (by omega)
    · exact env_one (bkRow a1 _ b1 (by omega))) (w := W) (vs := [v0, v1]) ⟨w0, w1, trivial⟩
  refine hc.mono fun e W3 ⟨he, hg⟩ => ?_
  subst he
  exact ⟨_, rfl, law_post (by kernel_rfl) (by kernel_rfl) (tb := 4) (by kernel_rfl) Tryz.underlying4 rfl (fun l hl => match l, hl with | [_, _], _ => ⟨rfl, rfl, rfl⟩) hW2 hg⟩
theorem over : Rows.conjWholeUptoRow.holds Tryz.pinned (Rows.OpenSpec.upto Rows.conjWholeSpec) :=
  OpenClaim.holds_of_cond 4 Tryz.f4 rfl rfl rfl rfl rfl rfl rfl ⟨rfl, rfl, rfl, rfl, rfl⟩ rfl rfl rfl rfl rfl (by kernel_rfl) Tryz.func4 (by kernel_rfl)
    (of_decide_eq_true (by kernel_rfl)) (by unfold Func.isWrapper; first | (rw [if_pos (by decide +kernel)]; kernel_rfl) | (rw [if_neg (by decide +kernel)]; exact ⟨rfl, rfl⟩))
    (fun os started H enc _ F => lifted os started H enc F)
theorem proved : Rows.ConjWholeUptoSaid :=
  over
end Go.Proofs.YtjmpnpkcgkhagaaGreat.conjWholeUpto
namespace Go.Proofs.YtjmpnpkcgkhagaaGreat.conjMovesUpto
open Go.ChangeShapes Go.WideShapes Go.ChangeAt Go.RowKit
open Go Go.Proofs.YtjmpnpkcgkhagaaGreat.B
set_option linter.unusedVariables false
theorem own : ownKnob Tryz.prog.godebug = none := by kernel_rfl
set_option maxRecDepth 100000 in
theorem lifted (os : Os) (started : os.Started) (H : Type) (enc : TypeId × Value → H) (F : Stop.Interp) :
    ReturnsInHanded {} Tryz.checked os 5 .any ((Rows.OpenSpec.upto Rows.conjMovesSpec).pre6 enc Tryz.prog Tryz.f5 Rows.conjMovesUptoRow.domain false) (((Rows.OpenSpec.upto Rows.conjMovesSpec).at F).post enc Tryz.prog Tryz.f5 false true false false) := by
  refine returnsInHanded_of_cond (C := Tryz.checked) (s := Rows.OpenSpec.upto Rows.conjMovesSpec) (k := Rows.uptoSmall) rfl own started (by kernel_rfl) Tryz.func5
    (OpenSpec.witness (enc := enc) (C := Tryz.checked) (s := Rows.OpenSpec.upto Rows.conjMovesSpec) (k := Rows.uptoSmall) rfl false ⟨#[], #[.agg #[.int .i64 0, .int .i64 0, .int .i64 0, .string ⟨#[]⟩, .int .i64 0, .int .i64 0, .string ⟨#[]⟩, .slice none 0 0, .slice none 0 0, .int .i64 0], .slice none 0 0, .slice none 0 0], []⟩ 12 (by kernel_rfl) (by kernel_rfl) (by kernel_rfl)
      (x := ([.agg [.lit (.int .i64 0), .agg [.lit (.int .i64 0), .lit (.int .i64 0), .lit (.string [])], .lit (.int .i64 0), .lit (.int .i64 0), .lit (.string []), .nil, .nil, .lit (.int .i64 0)], .nil, .nil], [], [])) (by kernel_rfl) rfl (by kernel_rfl)) ?_
  intro W base args ds gs before hval0 hW hcnd hk _
  have hval : ∀ (j : Nat) t v, Tryz.f5.params[j]? = some t → args[j]? = some v → Value.okWide Tryz.prog W .any base t v := hval0
  have hW2 := hW
  obtain ⟨p, q, hA0, hV, rfl, hfz, hnd⟩ := hW
  have hA : DataW.TrodAll enc Tryz.prog W 0 (fun _ => true) true Tryz.f5.params.toList args.toList ds p := hA0
  rw [Tryz.params5] at hA hval
  obtain ⟨v0, vs0, d0, ds0, p0, q0, hargs, rfl, rfl, h0, r0⟩ := trodAll_cons hA
  obtain ⟨v1, vs1, d1, ds1, p1, q1, rfl, rfl, rfl, h1, r1⟩ := trodAll_cons r0
  obtain ⟨v2, vs2, d2, ds2, p2, q2, rfl, rfl, rfl, h2, r2⟩ := trodAll_cons r1
  obtain ⟨rfl, rfl, rfl⟩ := trodAll_nil r2
  obtain rfl : args = #[v0, v1, v2] := by cases args; simp_all
  obtain ⟨rfl, rfl⟩ := trodVars_none hV
  obtain ⟨a0, w0, -, b0⟩ := arg_stU .term (und_st (t := 27) (by kernel_rfl)).choose_spec (by kernel_rfl) (hval 0 27 v0 rfl rfl) h0
  obtain ⟨a1, w1, -, b1⟩ := arg_slU (tiL_sl (t := 29) (τ := .val) (by kernel_rfl)) (hval 1 29 v1 rfl rfl) h1
  obtain ⟨a2, w2, -, b2⟩ := arg_slU (tiL_sl (t := 40) (τ := .int) (by kernel_rfl)) (hval 2 40 v2 rfl rfl) h2
  have hsum : Rows.uptoBulkAll ([d0, d1, d2] ++ []) ≤ 1048576 := of_decide_eq_true hk
  simp only [List.append_nil, Rows.uptoBulkAll] at hsum
  clear hA0 hval0
  simp only [List.append_nil] at hW2
  have hc := law_calls ok_l21_ConjMoves (args := [.d (.agg (B.enc Ty.term a0)), .d (.v (.dat (U := Un) Ty.val a1)), .d (.v (.dat (U := Un) Ty.int a2))]) (by
    unfold F_l21_ConjMoves
    simp only [dL_mk, dS_mk]
    rfl) (by
    intro p hp
    simp only [List.mem_cons, List.not_mem_nil, or_false] at hp
    have hsum2 := hsum
    rcases hp with rfl | rfl
    · exact bkStr a0 _ b0 (by omega)
    · exact env_one (bkRow a1 _ b1 (by omega))) (w := W) (vs := [v0, v1, v2]) ⟨w0, w1, w2, trivial⟩
  refine hc.mono fun e W3 ⟨he, hg⟩ => ?_
  subst he
  exact ⟨_, rfl, law_post (by kernel_rfl) (by kernel_rfl) (tb := 4) (by kernel_rfl) Tryz.underlying4 rfl (fun l hl => match l, hl with | [_, _, _], _ => ⟨rfl, rfl, rfl⟩) hW2 hg⟩
theorem over : Rows.conjMovesUptoRow.holds Tryz.pinned (Rows.OpenSpec.upto Rows.conjMovesSpec) :=
  OpenClaim.holds_of_cond 5 Tryz.f5 rfl rfl rfl rfl rfl rfl rfl ⟨rfl, rfl, rfl, rfl, rfl⟩ rfl rfl rfl rfl rfl (by kernel_rfl) Tryz.func5 (by kernel_rfl)
    (of_decide_eq_true (by kernel_rfl)) (by unfold Func.isWrapper; first | (rw [if_pos (by decide +kernel)]; kernel_rfl) | (rw [if_neg (by decide +kernel)]; exact ⟨rfl, rfl⟩))
    (fun os started H enc _ F => lifted os started H enc F)
theorem proved : Rows.ConjMovesUptoSaid :=
  over
end Go.Proofs.YtjmpnpkcgkhagaaGreat.conjMovesUpto
