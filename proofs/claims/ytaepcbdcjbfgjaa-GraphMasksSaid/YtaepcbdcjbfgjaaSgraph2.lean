/- Functions: graph2. (Printed by wip/tools/mkfn.py out of wip/src/graph2.src.) -/
import Derived.Test.YtaepcbdcjbfgjaaBAwf
import Derived.Test.YtaepcbdcjbfgjaaSspec
import Derived.Test.YtaepcbdcjbfgjaaSterms
import Derived.Test.YtaepcbdcjbfgjaaStermsz
import Derived.Test.YtaepcbdcjbfgjaaSconjspec
import Derived.Test.YtaepcbdcjbfgjaaSsorted
import Derived.Test.YtaepcbdcjbfgjaaSbitsub
import Derived.Test.YtaepcbdcjbfgjaaSbits2
import Derived.Test.YtaepcbdcjbfgjaaSconjU
import Derived.Test.YtaepcbdcjbfgjaaSconj2
import Derived.Test.YtaepcbdcjbfgjaaSconj3
import Derived.Test.YtaepcbdcjbfgjaaSconj4
namespace Go.Proofs.Ytaepcbdcjbfgjaa.B
open Go Go.RowKit
set_option maxRecDepth 100000
noncomputable section
attribute [local irreducible] awp ctxK itersK iterK retQ retGQ awf ctxF loopF

/-! ### graph.Mask$1 -/
def M_mC : Mc Un := mach (tbl []) (tbl []) (tbl []) (tbl []) (tbl [])
def A_mC (r : Bool × Int × Int) : List (A Un) := [.c (.s (.bool r.1))]
def B_mC (r : Bool × Int × Int) : List (Bool × List (C Un)) := [(false, [(.s (.int .i64 r.2.1))]), (false, [(.s (.int .i64 r.2.2))])]
def O_mC (_r : Bool × Int × Int) : List (Ob Un) := []
def R_mC (r : Bool × Int × Int) : RGF Un := (A_mC r, B_mC r, O_mC r)
def N_mC : Nat → NS := fun l => (look l []).getD ⟨[], [], [], [], []⟩
def mC_fn (at_ : Int) (from_ : Int) (to_ : Int) : Option (RGF Un) := awf M_mC N_mC (bodyOf Try.f63) (entryG Try.f63.ntmps 0 [.c (.s (.int .i64 at_)), .c (.bx 0 0), .c (.bx 1 0)] [(false, [(.s (.int .i64 from_))]), (false, [(.s (.int .i64 to_))])] []) (retGF M_mC 2 Try.f63.results.toList [.d, .d, .d])
theorem mC_in (at_ : Int) (from_ : Int) (to_ : Int) : mC_fn at_ from_ to_ =
 cndO (decide (at_ ≥ from_))
  (some (R_mC (decide (at_ < to_), from_, to_)))
  (some (R_mC (false, from_, to_))) := by kernel_rfl

def mC (at_ from_ to_ : Int) : Bool × Int × Int := (decide (at_ ≥ from_ ∧ at_ < to_), from_, to_)
theorem mC_spec (at_ from_ to_ : Int) (_h : WI at_) : mC_fn at_ from_ to_ = some (R_mC (mC at_ from_ to_)) := by
  rw [mC_in]
  unfold mC
  simp only [cndO_eq, decide_eq_true_eq]
  by_cases h1 : at_ ≥ from_
  · rw [if_pos h1]
    congr 3
    exact decide_eq_decide.2 ⟨fun h => ⟨h1, h⟩, fun h => h.2⟩
  · rw [if_neg h1, decide_eq_false (fun h => h1 h.1)]

def G_mC : List Bool × FnG Un := ([], fun args bxs os => match args, bxs, os with
  | [x0, .c (.bx 0 0), .c (.bx 1 0)], [(false, cells0), (false, cells1)], [] => match cells0.map C.weak, cells1.map C.weak with
    | [c0_from_], [c1_to_] => (aI .i64 x0).bind fun at_ => (aI .i64 (.c c0_from_)).bind fun from_ => (aI .i64 (.c c1_to_)).bind fun to_ => some ([], A_mC (mC at_ from_ to_), B_mC (mC at_ from_ to_), O_mC (mC at_ from_ to_))
    | _, _ => none
  | _, _, _ => none)

theorem okG_mC : GnOK 63 G_mC := by
  intro args bxs os ob rs bxs' os' h hob
  unfold G_mC at h
  dsimp only at h
  split at h
  · rename_i x0 cells0 cells1
    split at h
    · rename_i c0_from_ c1_to_ ec0 ec1
      simp only [Option.bind_eq_some_iff, Option.some.injEq, Prod.mk.injEq] at h
      obtain ⟨at_, e0, from_, e1, to_, e2, rfl, rfl, rfl, rfl⟩ := h
      obtain rfl := aI_eq e0
      have q1 := aI_eq e1
      have q2 := aI_eq e2
      refine ⟨GContract.weak ?_, hasBody_of Try.func63 (by kernel_rfl) (by kernel_rfl)⟩
      simp only [List.map_cons, List.map_nil, ec0, ec1]
      have hb : [(false, [c0_from_]), (false, [c1_to_])] = [(false, [(.s (.int .i64 from_))]), (false, [(.s (.int .i64 to_))])] := by
        simp only [A.c.injEq, A.agg.injEq] at q1 q2
        simp only [q1, q2]
        all_goals rfl
      rw [hb]
      refine gn_contract (M := M_mC) rfl (nb := 2) rfl (tbl_ok (l1 := []) (l2 := []) (l3 := []) (l4 := []) (l5 := []) trivial trivial trivial trivial trivial) Try.func63 (by kernel_rfl) N_mC 0 [.d, .d, .d] (fun ha hb ho => ?_)
      have hsp := mC_spec at_ from_ to_ (wfArgA ha (a := .c (.s (.int .i64 at_))) (by simp))
      exact runG_of_awf (r := (_, _, _)) hsp
    · simp at h
  · simp at h


/-! ### slices.IndexFunc[[]int,int] -/
def M_mIdx : Mc Un := mach (tbl []) (tbl []) (tbl []) (tbl [(63, G_mC)]) (tbl [])
def A_mIdx (r : Int × Int × Int) : List (A Un) := [.c (.s (.int .i64 r.1))]
def B_mIdx (r : Int × Int × Int) : List (Bool × List (C Un)) := [(false, [(.s (.int .i64 r.2.1))]), (false, [(.s (.int .i64 r.2.2))])]
def O_mIdx (_r : Int × Int × Int) : List (Ob Un) := []
def R_mIdx (r : Int × Int × Int) : RGF Un := (A_mIdx r, B_mIdx r, O_mIdx r)
def N_mIdx : Nat → NS := fun l => (look l [(2, { ts := bl 19 403, bs := bl 21 3, nm := [] })]).getD ⟨[], [], [], [], []⟩
def mIdx_s2 (s : List Int) (v0 : Int) (v1 : Int) (v2 : Int) : S Un := (st 19 21 84 2 [(0, al .int s), (1, AV.one (A.c (C.fc (63 : Nat) [(0 : Nat), (1 : Nat)]))), (4, ai (0 : Int)), (7, ai (↑s.length : Int)), (8, ai v0)] [(0, bi v1), (1, bi v2)] [])
def mIdx_e2_ret (s : List Int) (v0 : Int) (v1 : Int) (v2 : Int) (v3 : Int) : S Un := (st 19 21 84 2 [(0, al .int s), (1, AV.one (A.c (C.fc (63 : Nat) [(0 : Nat), (1 : Nat)]))), (4, ai v3), (7, ai (↑s.length : Int)), (8, ai v0)] [(0, bi v1), (1, bi v2)] [])
def mIdx_B2 : Code := sub (bodyOf Try.f81) [1, 0, 1, 2, 2]
def mIdx_L2 : S Un → Option (EX Un) := loopF (N_mIdx 2) (fun s Q => awf M_mIdx N_mIdx mIdx_B2 s Q)
def mIdx_C2 : Exit → S Un → Option (RGF Un) := ctxF M_mIdx N_mIdx (bodyOf Try.f81) [1, 0, 1, 2] (retGF M_mIdx 2 Try.f81.results.toList [.d, .d, .d])
def mIdx_fn (s : List Int) (from_ : Int) (to_ : Int) : Option (RGF Un) := awf M_mIdx N_mIdx (bodyOf Try.f81) (entryG Try.f81.ntmps 0 [.c (.sl (U := Un) Ty.int s false), .c (.fc 63 [0, 1])] [(false, [(.s (.int .i64 from_))]), (false, [(.s (.int .i64 to_))])] []) (retGF M_mIdx 2 Try.f81.results.toList [.d, .d, .d])
theorem mIdx_in (s : List Int) (from_ : Int) (to_ : Int) : mIdx_fn s from_ to_ =
 (mIdx_L2 (mIdx_s2 s (0 : Int) from_ to_)).bind (thenX mIdx_C2) := by kernel_rfl
theorem mIdx_l2 (s : List Int) (v0 : Int) (v1 : Int) (v2 : Int) : mIdx_L2 (mIdx_s2 s v0 v1 v2) =
 cndO (decide (v0 < (↑s.length : Int)))
  (obO (0 ≤ v0 ∧ v0 < (↑s.length : Int))
   (cndO ((mC (s.getD v0.toNat (0 : Int)) v1 v2).fst)
    (some (.ret, (mIdx_e2_ret s v0 ((mC (s.getD v0.toNat (0 : Int)) v1 v2).snd.fst) ((mC (s.getD v0.toNat (0 : Int)) v1 v2).snd.snd) v0)))
    (mIdx_L2 (mIdx_s2 s (IntKind.i64.wrap (v0 + 1)) ((mC (s.getD v0.toNat (0 : Int)) v1 v2).snd.fst) ((mC (s.getD v0.toNat (0 : Int)) v1 v2).snd.snd)))))
  (some (.exit 0, (mIdx_s2 s v0 v1 v2))) := (loopF_eq (N_mIdx 2) mIdx_B2 _).trans (by kernel_rfl)
theorem mIdx_a2_ret (s : List Int) (v0 : Int) (v1 : Int) (v2 : Int) (v3 : Int) : mIdx_C2 .ret (mIdx_e2_ret s v0 v1 v2 v3) =
 some (R_mIdx (v3, v1, v2)) := by kernel_rfl
theorem mIdx_a2_x0 (s : List Int) (v0 : Int) (v1 : Int) (v2 : Int) : mIdx_C2 (.exit 0) (mIdx_s2 s v0 v1 v2) =
 some (R_mIdx ((-1 : Int), v1, v2)) := by kernel_rfl

def mIdx (s : List Int) (from_ to_ : Int) : Int × Int × Int := (idxf_int s fun a => decide (a ≥ from_ ∧ a < to_), from_, to_)
theorem mIdx_spec (s : List Int) (from_ to_ : Int) (hs : WL .int s) : mIdx_fn s from_ to_ = some (R_mIdx (mIdx s from_ to_)) := by
  have key : ∀ (r : List Int) (i : Nat), s.drop i = r → i ≤ s.length → (mIdx_L2 (mIdx_s2 s i from_ to_)).bind (thenX mIdx_C2) = some (R_mIdx ((match r.findIdx? (fun a => decide (a ≥ from_ ∧ a < to_)) with | some k => ((i + k : Nat) : Int) | none => -1), from_, to_)) := by
    intro r
    induction r with
    | nil =>
      intro i hr hi
      have : s.length ≤ i := by rw [← List.drop_eq_nil_iff]; exact hr
      have e : mIdx_L2 (mIdx_s2 s i from_ to_) = some (.exit 0, mIdx_s2 s i from_ to_) := by rw [mIdx_l2, cndO_eq, if_neg (by rw [decide_eq_true_eq]; omega)]
      rw [loop_end e, mIdx_a2_x0]; rfl
    | cons x r ih =>
      intro i hr hi
      obtain ⟨a1, a2, a3, _⟩ := drop_cons hr
      have hx : s.getD i 0 = x := a2 0
      by_cases hf : decide (x ≥ from_ ∧ x < to_) = true
      · have e : mIdx_L2 (mIdx_s2 s i from_ to_) = some (.ret, mIdx_e2_ret s i from_ to_ i) := by
          rw [mIdx_l2, cndO_eq, if_pos (by rw [decide_eq_true_eq]; omega), obO_pos (by omega), Int.toNat_natCast, hx]
          simp only [mC]
          rw [cndO_eq, if_pos hf]
        rw [loop_end e, mIdx_a2_ret]
        simp only [List.findIdx?_cons]
        rw [if_pos hf]
        simp
      · have e : mIdx_L2 (mIdx_s2 s i from_ to_) = mIdx_L2 (mIdx_s2 s ((i + 1 : Nat) : Int) from_ to_) := by
          rw [mIdx_l2, cndO_eq, if_pos (by rw [decide_eq_true_eq]; omega), obO_pos (by omega), Int.toNat_natCast, hx]
          simp only [mC]
          rw [cndO_eq, if_neg hf, wrap_next a1 hs.len]
        rw [e, ih (i + 1) a3 (by omega)]
        congr 3
        simp only [List.findIdx?_cons, hf]
        cases r.findIdx? (fun a => decide (a ≥ from_ ∧ a < to_)) with
        | none => rfl
        | some k => simp; omega
  rw [mIdx_in]
  have := key s 0 rfl (Nat.zero_le _)
  refine Eq.trans this ?_
  unfold mIdx idxf_int
  cases s.findIdx? (fun a => decide (a ≥ from_ ∧ a < to_)) <;> simp

def G_mIdx : List Bool × FnG Un := ([], fun args bxs os => match args, bxs, os with
  | [x0, .c (.fc 63 [0, 1])], [(false, cells0), (false, cells1)], [] => match cells0.map C.weak, cells1.map C.weak with
    | [c0_from_], [c1_to_] => (aL .int x0).bind fun s => (aI .i64 (.c c0_from_)).bind fun from_ => (aI .i64 (.c c1_to_)).bind fun to_ => some ([], A_mIdx (mIdx s from_ to_), B_mIdx (mIdx s from_ to_), O_mIdx (mIdx s from_ to_))
    | _, _ => none
  | _, _, _ => none)

theorem okG_mIdx : GnOK 81 G_mIdx := by
  intro args bxs os ob rs bxs' os' h hob
  unfold G_mIdx at h
  dsimp only at h
  split at h
  · rename_i x0 cells0 cells1
    split at h
    · rename_i c0_from_ c1_to_ ec0 ec1
      simp only [Option.bind_eq_some_iff, Option.some.injEq, Prod.mk.injEq] at h
      obtain ⟨s, e0, from_, e1, to_, e2, rfl, rfl, rfl, rfl⟩ := h
      obtain rfl := aL_eq e0
      have q1 := aI_eq e1
      have q2 := aI_eq e2
      refine ⟨GContract.weak ?_, hasBody_of Try.func81 (by kernel_rfl) (by kernel_rfl)⟩
      simp only [List.map_cons, List.map_nil, ec0, ec1]
      have hb : [(false, [c0_from_]), (false, [c1_to_])] = [(false, [(.s (.int .i64 from_))]), (false, [(.s (.int .i64 to_))])] := by
        simp only [A.c.injEq, A.agg.injEq] at q1 q2
        simp only [q1, q2]
        all_goals rfl
      rw [hb]
      refine gn_contract (M := M_mIdx) rfl (nb := 2) rfl (tbl_ok (l1 := []) (l2 := []) (l3 := []) (l4 := [(63, G_mC)]) (l5 := []) trivial trivial trivial ⟨okG_mC, trivial⟩ trivial) Try.func81 (by kernel_rfl) N_mIdx 0 [.d, .d, .d] (fun ha hb ho => ?_)
      have hsp := mIdx_spec s from_ to_ (wfArgA ha (a := .c (.sl (U := Un) Ty.int s false)) (by simp))
      exact runG_of_awf (r := (_, _, _)) hsp
    · simp at h
  · simp at h


/-! ### slices.ContainsFunc[[]int,int] -/
def M_mCon : Mc Un := mach (tbl []) (tbl []) (tbl []) (tbl [(81, G_mIdx), (63, G_mC)]) (tbl [])
def A_mCon (r : Bool × Int × Int) : List (A Un) := [.c (.s (.bool r.1))]
def B_mCon (r : Bool × Int × Int) : List (Bool × List (C Un)) := [(false, [(.s (.int .i64 r.2.1))]), (false, [(.s (.int .i64 r.2.2))])]
def O_mCon (_r : Bool × Int × Int) : List (Ob Un) := []
def R_mCon (r : Bool × Int × Int) : RGF Un := (A_mCon r, B_mCon r, O_mCon r)
def N_mCon : Nat → NS := fun l => (look l []).getD ⟨[], [], [], [], []⟩
def mCon_fn (s : List Int) (from_ : Int) (to_ : Int) : Option (RGF Un) := awf M_mCon N_mCon (bodyOf Try.f50) (entryG Try.f50.ntmps 0 [.c (.sl (U := Un) Ty.int s false), .c (.fc 63 [0, 1])] [(false, [(.s (.int .i64 from_))]), (false, [(.s (.int .i64 to_))])] []) (retGF M_mCon 2 Try.f50.results.toList [.d, .d, .d])
theorem mCon_in (s : List Int) (from_ : Int) (to_ : Int) : mCon_fn s from_ to_ =
 some (R_mCon (decide ((mIdx s from_ to_).fst ≥ 0), (mIdx s from_ to_).snd.fst, (mIdx s from_ to_).snd.snd)) := by kernel_rfl

def mCon (s : List Int) (from_ to_ : Int) : Bool × Int × Int := (usesIn s from_ to_, from_, to_)
theorem mCon_spec (s : List Int) (from_ to_ : Int) (_hs : WL .int s) : mCon_fn s from_ to_ = some (R_mCon (mCon s from_ to_)) := by
  rw [mCon_in]
  unfold mCon mIdx usesIn
  have := idxf_int_nonneg s (fun a => decide (a ≥ from_ ∧ a < to_))
  congr 3
  rw [Bool.eq_iff_iff, decide_eq_true_eq, ← this]

def G_mCon : List Bool × FnG Un := ([], fun args bxs os => match args, bxs, os with
  | [x0, .c (.fc 63 [0, 1])], [(false, cells0), (false, cells1)], [] => match cells0.map C.weak, cells1.map C.weak with
    | [c0_from_], [c1_to_] => (aL .int x0).bind fun s => (aI .i64 (.c c0_from_)).bind fun from_ => (aI .i64 (.c c1_to_)).bind fun to_ => some ([], A_mCon (mCon s from_ to_), B_mCon (mCon s from_ to_), O_mCon (mCon s from_ to_))
    | _, _ => none
  | _, _, _ => none)

theorem okG_mCon : GnOK 50 G_mCon := by
  intro args bxs os ob rs bxs' os' h hob
  unfold G_mCon at h
  dsimp only at h
  split at h
  · rename_i x0 cells0 cells1
    split at h
    · rename_i c0_from_ c1_to_ ec0 ec1
      simp only [Option.bind_eq_some_iff, Option.some.injEq, Prod.mk.injEq] at h
      obtain ⟨s, e0, from_, e1, to_, e2, rfl, rfl, rfl, rfl⟩ := h
      obtain rfl := aL_eq e0
      have q1 := aI_eq e1
      have q2 := aI_eq e2
      refine ⟨GContract.weak ?_, hasBody_of Try.func50 (by kernel_rfl) (by kernel_rfl)⟩
      simp only [List.map_cons, List.map_nil, ec0, ec1]
      have hb : [(false, [c0_from_]), (false, [c1_to_])] = [(false, [(.s (.int .i64 from_))]), (false, [(.s (.int .i64 to_))])] := by
        simp only [A.c.injEq, A.agg.injEq] at q1 q2
        simp only [q1, q2]
        all_goals rfl
      rw [hb]
      refine gn_contract (M := M_mCon) rfl (nb := 2) rfl (tbl_ok (l1 := []) (l2 := []) (l3 := []) (l4 := [(81, G_mIdx), (63, G_mC)]) (l5 := []) trivial trivial trivial ⟨okG_mIdx, okG_mC, trivial⟩ trivial) Try.func50 (by kernel_rfl) N_mCon 0 [.d, .d, .d] (fun ha hb ho => ?_)
      have hsp := mCon_spec s from_ to_ (wfArgA ha (a := .c (.sl (U := Un) Ty.int s false)) (by simp))
      exact runG_of_awf (r := (_, _, _)) hsp
    · simp at h
  · simp at h


/-! ### graph.Mask -/
def M_graph_Mask : Mc Un := mach (tbl [(17, F_conj_Uses)]) (tbl []) (tbl []) (tbl [(50, G_mCon)]) (tbl [])
def A_graph_Mask (r : Int) : List (A Un) := [.c (.s (.int .i64 r))]
def O_graph_Mask (_r : Int) : List (Ob Un) := []
def R_graph_Mask (r : Int) : RF Un := (A_graph_Mask r, O_graph_Mask r)
def N_graph_Mask : Nat → NS := fun l => (look l [(4, { ts := bl 40 917728, bs := bl 40 128, nm := [] })]).getD ⟨[], [], [], [], []⟩
def graph_Mask_s4 (t : Term) (widths : List Int) (v0 : Int) (v1 : Int) (v2 : Int) : S Un := (st 40 40 160 0 [(5, al .int (conj_Uses (Term.ids t) (0 : Int))), (6, ai v0), (7, ax 7), (17, al .int (List.take (List.foldl (fun a b => if b < a then b else a) (↑widths.length : Int) [(62 : Int)]).toNat widths)), (18, ai (↑(List.take (List.foldl (fun a b => if b < a then b else a) (↑widths.length : Int) [(62 : Int)]).toNat widths).length : Int)), (19, ai v1)] [(7, bi v2)] [])
def graph_Mask_B4 : Code := sub (bodyOf Try.f28) [1, 1, 1, 0, 1, 2, 2]
def graph_Mask_L4 : S Un → Option (EX Un) := loopF (N_graph_Mask 4) (fun s Q => awf M_graph_Mask N_graph_Mask graph_Mask_B4 s Q)
def graph_Mask_C4 : Exit → S Un → Option (RF Un) := ctxF M_graph_Mask N_graph_Mask (bodyOf Try.f28) [1, 1, 1, 0, 1, 2] (retF M_graph_Mask Try.f28.results.toList [.d])
def graph_Mask_fn (t : Term) (widths : List Int) : Option (RF Un) := awf M_graph_Mask N_graph_Mask (bodyOf Try.f28) (entry Try.f28.ntmps 0 [.d (.agg (enc Ty.term t)), .d (.v (.dat (U := Un) Ty.int widths))]) (retF M_graph_Mask Try.f28.results.toList [.d])
theorem graph_Mask_in (t : Term) (widths : List Int) : graph_Mask_fn t widths =
 obO (useOK (Term.ids t) (0 : Int))
  (obO (0 ≤ List.foldl (fun a b => if b < a then b else a) (↑widths.length : Int) [(62 : Int)] ∧ List.foldl (fun a b => if b < a then b else a) (↑widths.length : Int) [(62 : Int)] ≤ (↑widths.length : Int))
   ((graph_Mask_L4 (graph_Mask_s4 t widths (0 : Int) (0 : Int) (0 : Int))).bind (thenX graph_Mask_C4))) := by kernel_rfl
theorem graph_Mask_l4 (t : Term) (widths : List Int) (v0 : Int) (v1 : Int) (v2 : Int) : graph_Mask_L4 (graph_Mask_s4 t widths v0 v1 v2) =
 cndO (decide (v1 < (↑(List.take (List.foldl (fun a b => if b < a then b else a) (↑widths.length : Int) [(62 : Int)]).toNat widths).length : Int)))
  (obO (0 ≤ v1 ∧ v1 < (↑(List.take (List.foldl (fun a b => if b < a then b else a) (↑widths.length : Int) [(62 : Int)]).toNat widths).length : Int))
   (cndO ((mCon (conj_Uses (Term.ids t) (0 : Int)) v2 (List.foldl (fun a b => if b < a then b else a) (IntKind.i64.wrap (v2 + List.foldl (fun a b => if b < a then b else a) (List.foldl (fun a b => if a < b then b else a) ((List.take (List.foldl (fun a b => if b < a then b else a) (↑widths.length : Int) [(62 : Int)]).toNat widths).getD v1.toNat (0 : Int)) [(0 : Int)]) [(2147483648 : Int)])) [(2147483648 : Int)])).fst)
    (obO (¬v1 < 0)
     (graph_Mask_L4 (graph_Mask_s4 t widths (IntKind.i64.wrap (↑(BitVec.ofInt IntKind.i64.bits v0 ||| BitVec.ofInt IntKind.i64.bits (IntKind.i64.wrap ((1 : Int) * (2 : Int) ^ min v1.toNat IntKind.i64.bits))).toNat : Int)) (IntKind.i64.wrap (v1 + 1)) ((mCon (conj_Uses (Term.ids t) (0 : Int)) v2 (List.foldl (fun a b => if b < a then b else a) (IntKind.i64.wrap (v2 + List.foldl (fun a b => if b < a then b else a) (List.foldl (fun a b => if a < b then b else a) ((List.take (List.foldl (fun a b => if b < a then b else a) (↑widths.length : Int) [(62 : Int)]).toNat widths).getD v1.toNat (0 : Int)) [(0 : Int)]) [(2147483648 : Int)])) [(2147483648 : Int)])).snd.snd))))
    (graph_Mask_L4 (graph_Mask_s4 t widths v0 (IntKind.i64.wrap (v1 + 1)) ((mCon (conj_Uses (Term.ids t) (0 : Int)) v2 (List.foldl (fun a b => if b < a then b else a) (IntKind.i64.wrap (v2 + List.foldl (fun a b => if b < a then b else a) (List.foldl (fun a b => if a < b then b else a) ((List.take (List.foldl (fun a b => if b < a then b else a) (↑widths.length : Int) [(62 : Int)]).toNat widths).getD v1.toNat (0 : Int)) [(0 : Int)]) [(2147483648 : Int)])) [(2147483648 : Int)])).snd.snd)))))
  (some (.exit 0, (graph_Mask_s4 t widths v0 v1 v2))) := (loopF_eq (N_graph_Mask 4) graph_Mask_B4 _).trans (by kernel_rfl)
theorem graph_Mask_a4_x0 (t : Term) (widths : List Int) (v0 : Int) (v1 : Int) (v2 : Int) : graph_Mask_C4 (.exit 0) (graph_Mask_s4 t widths v0 v1 v2) =
 some (R_graph_Mask (v0)) := by kernel_rfl

theorem fMin (a b : Int) : List.foldl (fun a b => if b < a then b else a) a [b] = min a b := by
  simp only [List.foldl_cons, List.foldl_nil]; split <;> omega
theorem fMax (a b : Int) : List.foldl (fun a b => if a < b then b else a) a [b] = max a b := by
  simp only [List.foldl_cons, List.foldl_nil]; split <;> omega
def graph_Mask (t : Term) (widths : List Int) : Int := ((maskA (usesA t 0) widths : Nat) : Int)
def maskStep (u : List Int) (a : Nat × Int × Nat) (w : Int) : Nat × Int × Nat := (if usesIn u a.2.1 (nextTo a.2.1 w) = true then a.1 + 2 ^ a.2.2 else a.1, nextTo a.2.1 w, a.2.2 + 1)
theorem mask_fold (u : List Int) : ∀ (l : List Int) (a : Nat × Int × Nat), (l.foldl (maskStep u) a).1 = maskGo u l a.2.2 a.2.1 a.1
  | [], _ => rfl
  | w :: l, a => by rw [List.foldl_cons, mask_fold u l]; rfl
theorem take62 (widths : List Int) : List.take (min (widths.length : Int) 62).toNat widths = widths.take 62 := by
  by_cases h : widths.length ≤ 62
  · have e : (min (widths.length : Int) 62).toNat = widths.length := by omega
    rw [e, List.take_length, List.take_of_length_le h]
  · have e : (min (widths.length : Int) 62).toNat = 62 := by omega
    rw [e]
theorem graph_Mask_spec (t : Term) (widths : List Int) (_ht : WS .term t) (hw : WL .int widths) (h : t.sz ≤ 1000000) : graph_Mask_fn t widths = some (R_graph_Mask (graph_Mask t widths)) := by
  have hlen : (widths.take 62).length ≤ 62 := by rw [List.length_take]; omega
  obtain ⟨lp, _⟩ := loop_fold (e := .exit 0) (L := graph_Mask_L4) (st := fun (a : Nat × Int × Nat) i => graph_Mask_s4 t widths (a.1 : Int) i a.2.1) (l := widths.take 62) (d := (0 : Int)) (g := maskStep (usesA t 0)) (fun i a => a.2.2 = i ∧ a.1 < 2 ^ i ∧ 0 ≤ a.2.1 ∧ a.2.1 ≤ 2147483648) (by omega)
    (fun a i x hi hx hI => by
      obtain ⟨h1, h2, h3, h4⟩ : a.2.2 = i ∧ a.1 < 2 ^ i ∧ 0 ≤ a.2.1 ∧ a.2.1 ≤ 2147483648 := hI
      have hn := nextTo_ge (w := x) h4
      have h2i : 2 ^ i ≤ 2 ^ 61 := Nat.pow_le_pow_right (by decide) (by omega)
      refine ⟨?_, ?_⟩
      · show (maskStep (usesA t 0) a x).2.2 = i + 1 ∧ (maskStep (usesA t 0) a x).1 < 2 ^ (i + 1) ∧ 0 ≤ (maskStep (usesA t 0) a x).2.1 ∧ (maskStep (usesA t 0) a x).2.1 ≤ 2147483648
        unfold maskStep
        simp only [h1]
        refine ⟨trivial, by rw [Nat.pow_succ]; split <;> omega, by omega, hn.2⟩
      · have hto : IntKind.i64.wrap (a.2.1 + min (max x 0) 2147483648) = a.2.1 + min (max x 0) 2147483648 := wrap_id (by omega)
        have hnx : min (a.2.1 + min (max x 0) 2147483648) 2147483648 = nextTo a.2.1 x := rfl
        rw [graph_Mask_l4]
        simp only [fMin, fMax, take62, Term.ids_eq, Int.toNat_natCast, hx, conj_Uses_eq, hto, hnx, mCon, cndO_eq, decide_eq_true_eq]
        rw [if_pos (by omega), obO_pos (by omega), obO_pos (by omega), k_shl (by omega), k_orNat (by omega) (by omega), or_bit h2]
        unfold maskStep
        simp only [h1]
        by_cases hu : usesIn (usesA t 0) a.2.1 (nextTo a.2.1 x) = true
        · rw [if_pos hu, if_pos hu]
        · rw [if_neg hu, if_neg hu])
    (fun a _ => by
      rw [graph_Mask_l4]
      simp only [fMin, take62, cndO_eq, decide_eq_true_eq]
      rw [if_neg (by omega)]) (0, 0, 0) (show (0 : Nat) = 0 ∧ 0 < 2 ^ 0 ∧ (0 : Int) ≤ 0 ∧ (0 : Int) ≤ 2147483648 from ⟨rfl, by decide, by decide, by decide⟩)
  rw [graph_Mask_in]
  simp only [Term.ids_eq, fMin]
  rw [obO_pos (show useOK t 0 from ⟨by omega, h⟩), obO_pos (by omega)]
  refine (loop_end lp).trans ?_
  rw [graph_Mask_a4_x0, mask_fold]
  rfl

def F_graph_Mask : FnC Un := fun args => match args with
  | [x0, x1] => (dS .term x0).bind fun t => (dL .int x1).bind fun widths => some ([t.sz ≤ 1000000], A_graph_Mask (graph_Mask t widths), O_graph_Mask (graph_Mask t widths))
  | _ => none

theorem ok_graph_Mask : FnOK 28 F_graph_Mask := by
  intro args ob rs os h hob
  unfold F_graph_Mask at h
  split at h
  · simp only [Option.bind_eq_some_iff, Option.some.injEq, Prod.mk.injEq] at h
    obtain ⟨t, e0, widths, e1, rfl, rfl, rfl⟩ := h
    obtain rfl := dS_eq e0
    obtain rfl := dL_eq e1
    exact ⟨fn_contractF (M := M_graph_Mask) rfl (tbl_ok (l1 := [(17, F_conj_Uses)]) (l2 := []) (l3 := []) (l4 := [(50, G_mCon)]) (l5 := []) ⟨ok_conj_Uses, trivial⟩ trivial trivial ⟨okG_mCon, trivial⟩ trivial) Try.func28 (by kernel_rfl) N_graph_Mask 0 [.d] (fun hwf => (graph_Mask_spec t widths (wfArg hwf (a := .d (.agg (enc Ty.term t))) (List.mem_of_getElem? (i := 0) rfl)) (wfArg hwf (a := .d (.v (.dat (U := Un) Ty.int widths))) (List.mem_of_getElem? (i := 1) rfl)) (hob _ (List.mem_of_getElem? (i := 0) rfl)))), hasBody_of Try.func28 (by kernel_rfl) (by kernel_rfl)⟩
  · simp at h


end
end Go.Proofs.Ytaepcbdcjbfgjaa.B
