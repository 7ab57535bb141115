/- Functions: law21. (Printed by wip/tools/mkfn.py out of wip/src/law21.src.) -/
import Derived.Test.YtaepcbdcjbfgjaaBAwf
import Derived.Test.YtaepcbdcjbfgjaaSspec
import Derived.Test.YtaepcbdcjbfgjaaSterms
import Derived.Test.YtaepcbdcjbfgjaaStermsz
import Derived.Test.YtaepcbdcjbfgjaaSconjspec
import Derived.Test.YtaepcbdcjbfgjaaSsorted
import Derived.Test.YtaepcbdcjbfgjaaSconjU
import Derived.Test.YtaepcbdcjbfgjaaSconj2
import Derived.Test.YtaepcbdcjbfgjaaSconj3
import Derived.Test.YtaepcbdcjbfgjaaSconj4
import Derived.Test.YtaepcbdcjbfgjaaSsame
import Derived.Test.YtaepcbdcjbfgjaaSsame2
import Derived.Test.YtaepcbdcjbfgjaaSsame3
import Derived.Test.YtaepcbdcjbfgjaaSsame4
import Derived.Test.YtaepcbdcjbfgjaaSsame5
import Derived.Test.YtaepcbdcjbfgjaaSconj5
import Derived.Test.YtaepcbdcjbfgjaaSconj6
import Derived.Test.YtaepcbdcjbfgjaaSconj7
import Derived.Test.YtaepcbdcjbfgjaaSref03
import Derived.Test.YtaepcbdcjbfgjaaSref15
import Derived.Test.YtaepcbdcjbfgjaaSref15b
import Derived.Test.YtaepcbdcjbfgjaaSref21
import Derived.Test.YtaepcbdcjbfgjaaSref21b
import Derived.Test.YtaepcbdcjbfgjaaSref21c
import Derived.Test.YtaepcbdcjbfgjaaSlarge
namespace Go.Proofs.Ytaepcbdcjbfgjaa.B
open Go Go.RowKit
set_option maxRecDepth 100000
noncomputable section
attribute [local irreducible] awp ctxK itersK iterK retQ retGQ awf ctxF loopF

/-! ### tabellionlaw21.col -/
def M_l21_col : Mc Un := mach (tbl []) (tbl []) (tbl []) (tbl []) (tbl [])
def A_l21_col (r : Term) : List (A Un) := [.agg (encC Ty.term r)]
def O_l21_col (_r : Term) : List (Ob Un) := []
def R_l21_col (r : Term) : RF Un := (A_l21_col r, O_l21_col r)
def N_l21_col : Nat → NS := fun l => (look l []).getD ⟨[], [], [], [], []⟩
def l21_col_fn (depth : Int) (at_ : Int) : Option (RF Un) := awf M_l21_col N_l21_col (bodyOf Try.f33) (entry Try.f33.ntmps 0 [.d (.v (.s (.int .i64 depth))), .d (.v (.s (.int .i64 at_)))]) (retF M_l21_col Try.f33.results.toList [.d])
theorem l21_col_in (depth : Int) (at_ : Int) : l21_col_fn depth at_ =
 some (R_l21_col (Term.mk (2 : Int) zeroVal depth at_ (ByteArray.mk #[]) [] [] (2 : Int))) := by kernel_rfl

def l21_col (depth at_ : Int) : Term := .mk 2 zeroVal depth at_ ⟨#[]⟩ [] [] 2
theorem l21_col_spec (depth at_ : Int) (_h : WI depth) (_h2 : WI at_) : l21_col_fn depth at_ = some (R_l21_col (l21_col depth at_)) := by rw [l21_col_in]; rfl
def l21_and (a b : Term) : Term := and2 a b

def F_l21_col : FnC Un := fun args => match args with
  | [x0, x1] => (dI .i64 x0).bind fun depth => (dI .i64 x1).bind fun at_ => some ([], A_l21_col (l21_col depth at_), O_l21_col (l21_col depth at_))
  | _ => none

theorem ok_l21_col : FnOK 33 F_l21_col := by
  intro args ob rs os h hob
  unfold F_l21_col at h
  split at h
  · simp only [Option.bind_eq_some_iff, Option.some.injEq, Prod.mk.injEq] at h
    obtain ⟨depth, e0, at_, e1, rfl, rfl, rfl⟩ := h
    obtain rfl := dI_eq e0
    obtain rfl := dI_eq e1
    exact ⟨fn_contractF (M := M_l21_col) rfl (tbl_ok (l1 := []) (l2 := []) (l3 := []) (l4 := []) (l5 := []) trivial trivial trivial trivial trivial) Try.func33 (by kernel_rfl) N_l21_col 0 [.d] (fun hwf => (l21_col_spec depth at_ (wfArg hwf (a := .d (.v (.s (.int .i64 depth)))) (List.mem_of_getElem? (i := 0) rfl)) (wfArg hwf (a := .d (.v (.s (.int .i64 at_)))) (List.mem_of_getElem? (i := 1) rfl)))), hasBody_of Try.func33 (by kernel_rfl) (by kernel_rfl)⟩
  · simp at h


/-! ### tabellionlaw21.and -/
def M_l21_and : Mc Un := mach (tbl []) (tbl []) (tbl []) (tbl []) (tbl [])
def A_l21_and (r : Term) : List (A Un) := [.agg (encC Ty.term r)]
def O_l21_and (_r : Term) : List (Ob Un) := []
def R_l21_and (r : Term) : RF Un := (A_l21_and r, O_l21_and r)
def N_l21_and : Nat → NS := fun l => (look l []).getD ⟨[], [], [], [], []⟩
def l21_and_fn (a : Term) (b : Term) : Option (RF Un) := awf M_l21_and N_l21_and (bodyOf Try.f34) (entry Try.f34.ntmps 0 [.d (.agg (enc Ty.term a)), .d (.agg (enc Ty.term b))]) (retF M_l21_and Try.f34.results.toList [.d])
theorem l21_and_in (a : Term) (b : Term) : l21_and_fn a b =
 some (R_l21_and (Term.mk (17 : Int) zeroVal (0 : Int) (0 : Int) (ByteArray.mk #[]) [(Term.ids a), (Term.ids b)] [] (1 : Int))) := by kernel_rfl

theorem l21_and_spec (a b : Term) (_h : WS .term a) (_h2 : WS .term b) : l21_and_fn a b = some (R_l21_and (l21_and a b)) := by rw [l21_and_in, Term.ids_eq, Term.ids_eq]; rfl

def F_l21_and : FnC Un := fun args => match args with
  | [x0, x1] => (dS .term x0).bind fun a => (dS .term x1).bind fun b => some ([], A_l21_and (l21_and a b), O_l21_and (l21_and a b))
  | _ => none

theorem ok_l21_and : FnOK 34 F_l21_and := by
  intro args ob rs os h hob
  unfold F_l21_and at h
  split at h
  · simp only [Option.bind_eq_some_iff, Option.some.injEq, Prod.mk.injEq] at h
    obtain ⟨a, e0, b, e1, rfl, rfl, rfl⟩ := h
    obtain rfl := dS_eq e0
    obtain rfl := dS_eq e1
    exact ⟨fn_contractF (M := M_l21_and) rfl (tbl_ok (l1 := []) (l2 := []) (l3 := []) (l4 := []) (l5 := []) trivial trivial trivial trivial trivial) Try.func34 (by kernel_rfl) N_l21_and 0 [.d] (fun hwf => (l21_and_spec a b (wfArg hwf (a := .d (.agg (enc Ty.term a))) (List.mem_of_getElem? (i := 0) rfl)) (wfArg hwf (a := .d (.agg (enc Ty.term b))) (List.mem_of_getElem? (i := 1) rfl)))), hasBody_of Try.func34 (by kernel_rfl) (by kernel_rfl)⟩
  · simp at h


/-! ### tabellionlaw21.awake -/
def M_l21_awake : Mc Un := mach (tbl [(33, F_l21_col), (23, F_conj_Pair), (19, F_conj_Move), (34, F_l21_and), (10, F_conj_Split), (11, F_r21_List), (17, F_conj_Uses), (16, F_r14_Ints), (14, F_conj_Join), (35, F_value_Bool), (21, F_conj_Within)]) (tbl []) (tbl []) (tbl []) (tbl [])
def A_l21_awake (r : Bool) : List (A Un) := [.c (.s (.bool r))]
def O_l21_awake (_r : Bool) : List (Ob Un) := []
def R_l21_awake (r : Bool) : RF Un := (A_l21_awake r, O_l21_awake r)
def N_l21_awake : Nat → NS := fun l => (look l []).getD ⟨[], [], [], [], []⟩
def l21_awake_fn : Option (RF Un) := awf M_l21_awake N_l21_awake (bodyOf Try.f9) (entry Try.f9.ntmps 0 []) (retF M_l21_awake Try.f9.results.toList [.d])
theorem l21_awake_in : l21_awake_fn =
 obO ((Term.mk (11 : Int) zeroVal (0 : Int) (0 : Int) (ByteArray.mk #[]) [(Term.ids (l21_col (0 : Int) (2 : Int))), (Term.ids (l21_col (0 : Int) (0 : Int)))] [] (1 : Int)).sz ≤ (1000000 : Nat))
  (obO ((Term.mk (11 : Int) zeroVal (0 : Int) (0 : Int) (ByteArray.mk #[]) [(Term.ids (l21_col (0 : Int) (2 : Int))), (Term.ids (l21_col (0 : Int) (0 : Int)))] [] (1 : Int)).sz ≤ (1000000 : Nat))
   (obO ((Term.mk (11 : Int) zeroVal (0 : Int) (0 : Int) (ByteArray.mk #[]) [(Term.ids (l21_col (0 : Int) (2 : Int))), (Term.ids (l21_col (0 : Int) (0 : Int)))] [] (1 : Int)).sz ≤ (1000000 : Nat))
    (obO ((Term.ids (l21_and (Term.ids (l21_and (Term.ids (l21_col (0 : Int) (0 : Int))) (Term.ids (l21_col (0 : Int) (1 : Int))))) (Term.ids (l21_col (0 : Int) (2 : Int))))).sz ≤ (1000000 : Nat))
     (cndO (r21_List (conj_Split (Term.ids (l21_and (Term.ids (l21_and (Term.ids (l21_col (0 : Int) (0 : Int))) (Term.ids (l21_col (0 : Int) (1 : Int))))) (Term.ids (l21_col (0 : Int) (2 : Int)))))) [(Term.ids (l21_col (0 : Int) (0 : Int))), (Term.ids (l21_col (0 : Int) (1 : Int))), (Term.ids (l21_col (0 : Int) (2 : Int)))])
      (obO (useOK (Term.ids (l21_and (Term.ids (l21_col (0 : Int) (1 : Int))) (Term.ids (l21_and (Term.ids (l21_col (0 : Int) (0 : Int))) (Term.ids (l21_col (0 : Int) (1 : Int))))))) (0 : Int))
       (cndO (r14_Ints (conj_Uses (Term.ids (l21_and (Term.ids (l21_col (0 : Int) (1 : Int))) (Term.ids (l21_and (Term.ids (l21_col (0 : Int) (0 : Int))) (Term.ids (l21_col (0 : Int) (1 : Int))))))) (0 : Int)) [(0 : Int), (1 : Int)])
        (cndO ((conj_Pair (Term.mk (11 : Int) zeroVal (0 : Int) (0 : Int) (ByteArray.mk #[]) [(Term.ids (l21_col (0 : Int) (2 : Int))), (Term.ids (l21_col (0 : Int) (0 : Int)))] [] (1 : Int)) (1 : Int)).snd.snd)
         (cndO ((conj_Pair (Term.mk (11 : Int) zeroVal (0 : Int) (0 : Int) (ByteArray.mk #[]) [(Term.ids (l21_col (0 : Int) (2 : Int))), (Term.ids (l21_col (0 : Int) (0 : Int)))] [] (1 : Int)) (1 : Int)).fst.at_ == 0)
          (cndO ((conj_Pair (Term.mk (11 : Int) zeroVal (0 : Int) (0 : Int) (ByteArray.mk #[]) [(Term.ids (l21_col (0 : Int) (2 : Int))), (Term.ids (l21_col (0 : Int) (0 : Int)))] [] (1 : Int)) (1 : Int)).snd.fst.at_ == 1)
           (cndO (!(conj_Pair (Term.mk (11 : Int) zeroVal (0 : Int) (0 : Int) (ByteArray.mk #[]) [(Term.ids (l21_col (0 : Int) (2 : Int))), (Term.ids (l21_col (0 : Int) (0 : Int)))] [] (1 : Int)) (0 : Int)).snd.snd)
            (cndO ((↑(conj_Move (Term.mk (11 : Int) zeroVal (0 : Int) (0 : Int) (ByteArray.mk #[]) [(Term.ids (l21_col (0 : Int) (2 : Int))), (Term.ids (l21_col (0 : Int) (0 : Int)))] [] (1 : Int)) (0 : Int) [(7 : Int)]).kids.length : Int) == (2 : Int))
             (obO ((0 : Int) ≤ (0 : Int) ∧ (0 : Int) < (↑(conj_Move (Term.mk (11 : Int) zeroVal (0 : Int) (0 : Int) (ByteArray.mk #[]) [(Term.ids (l21_col (0 : Int) (2 : Int))), (Term.ids (l21_col (0 : Int) (0 : Int)))] [] (1 : Int)) (0 : Int) [(7 : Int)]).kids.length : Int))
              (cndO (Term.at_ ((conj_Move (Term.mk (11 : Int) zeroVal (0 : Int) (0 : Int) (ByteArray.mk #[]) [(Term.ids (l21_col (0 : Int) (2 : Int))), (Term.ids (l21_col (0 : Int) (0 : Int)))] [] (1 : Int)) (0 : Int) [(7 : Int)]).kids.getD 0 zeroTerm) == 2)
               (obO ((0 : Int) ≤ (1 : Int) ∧ (1 : Int) < (↑(conj_Move (Term.mk (11 : Int) zeroVal (0 : Int) (0 : Int) (ByteArray.mk #[]) [(Term.ids (l21_col (0 : Int) (2 : Int))), (Term.ids (l21_col (0 : Int) (0 : Int)))] [] (1 : Int)) (0 : Int) [(7 : Int)]).kids.length : Int))
                (cndO (Term.at_ ((conj_Move (Term.mk (11 : Int) zeroVal (0 : Int) (0 : Int) (ByteArray.mk #[]) [(Term.ids (l21_col (0 : Int) (2 : Int))), (Term.ids (l21_col (0 : Int) (0 : Int)))] [] (1 : Int)) (0 : Int) [(7 : Int)]).kids.getD 1 zeroTerm) == 7)
                 (cndO (andB [EK.int IntKind.i64, EK.str] ((conj_Join []).v.kind == (value_Bool true).kind) (andB [EK.str] ((conj_Join []).v.n == (value_Bool true).n) (andB [] ((conj_Join []).v.s.toList == (value_Bool true).s.toList) true)))
                  (obO ((Term.mk (11 : Int) zeroVal (0 : Int) (0 : Int) (ByteArray.mk #[]) [(Term.ids (l21_col (0 : Int) (2 : Int))), (Term.ids (l21_col (0 : Int) (0 : Int)))] [] (1 : Int)).sz ≤ (1000000 : Nat))
                   (cndO (conj_Within (Term.mk (11 : Int) zeroVal (0 : Int) (0 : Int) (ByteArray.mk #[]) [(Term.ids (l21_col (0 : Int) (2 : Int))), (Term.ids (l21_col (0 : Int) (0 : Int)))] [] (1 : Int)) (0 : Int) (3 : Int))
                    (obO ((Term.mk (11 : Int) zeroVal (0 : Int) (0 : Int) (ByteArray.mk #[]) [(Term.ids (l21_col (0 : Int) (2 : Int))), (Term.ids (l21_col (0 : Int) (0 : Int)))] [] (1 : Int)).sz ≤ (1000000 : Nat))
                     (some (R_l21_awake (!conj_Within (Term.mk (11 : Int) zeroVal (0 : Int) (0 : Int) (ByteArray.mk #[]) [(Term.ids (l21_col (0 : Int) (2 : Int))), (Term.ids (l21_col (0 : Int) (0 : Int)))] [] (1 : Int)) (1 : Int) (3 : Int)))))
                    (some (R_l21_awake (false)))))
                  (some (R_l21_awake (false))))
                 (some (R_l21_awake (false)))))
               (some (R_l21_awake (false)))))
             (some (R_l21_awake (false))))
            (some (R_l21_awake (false))))
           (some (R_l21_awake (false))))
          (some (R_l21_awake (false))))
         (some (R_l21_awake (false))))
        (some (R_l21_awake (false)))))
      (some (R_l21_awake (false))))))) := by kernel_rfl

theorem cndO_t {α : Type} {b : Bool} (h : b = true) {x y : Option α} : cndO b x y = x := by rw [h]; rfl
def l21_awake : Bool := true
theorem l21_awake_spec : l21_awake_fn = some (R_l21_awake l21_awake) := by
  rw [l21_awake_in]
  simp only [Term.ids_eq]
  repeat (first
    | refine (obO_pos (by first | exact Nat.le_of_ble_eq_true (by kernel_rfl) | exact ⟨by decide, Nat.le_of_ble_eq_true (by kernel_rfl)⟩ | exact of_decide_eq_true (by kernel_rfl))).trans ?_
    | refine (cndO_t (by first | exact deq_iff.2 (by kernel_rfl) | kernel_rfl)).trans ?_)
  kernel_rfl

def F_l21_awake : FnC Un := fun args => match args with
  | [] => some ([], A_l21_awake (l21_awake), O_l21_awake (l21_awake))
  | _ => none

theorem ok_l21_awake : FnOK 9 F_l21_awake := by
  intro args ob rs os h hob
  unfold F_l21_awake at h
  split at h
  · simp only [Option.bind_eq_some_iff, Option.some.injEq, Prod.mk.injEq] at h
    obtain ⟨rfl, rfl, rfl⟩ := h
    exact ⟨fn_contractF (M := M_l21_awake) rfl (tbl_ok (l1 := [(33, F_l21_col), (23, F_conj_Pair), (19, F_conj_Move), (34, F_l21_and), (10, F_conj_Split), (11, F_r21_List), (17, F_conj_Uses), (16, F_r14_Ints), (14, F_conj_Join), (35, F_value_Bool), (21, F_conj_Within)]) (l2 := []) (l3 := []) (l4 := []) (l5 := []) ⟨ok_l21_col, ok_conj_Pair, ok_conj_Move, ok_l21_and, ok_conj_Split, ok_r21_List, ok_conj_Uses, ok_r14_Ints, ok_conj_Join, ok_value_Bool, ok_conj_Within, trivial⟩ trivial trivial trivial trivial) Try.func9 (by kernel_rfl) N_l21_awake 0 [.d] (fun hwf => (l21_awake_spec)), hasBody_of Try.func9 (by kernel_rfl) (by kernel_rfl)⟩
  · simp at h

/-! ### what is not too large has few parts -/
def SpSz (p : SpP) : Prop := (∀ l n, 0 < p.1 l n → (szTs l : Int) + p.1 l n ≤ n) ∧ ∀ l n, 0 < p.2 l n → (szRs l : Int) + p.2 l n ≤ n
theorem loopT_sz {p : SpP} (h : SpSz p) : ∀ l n, 0 < loopT p l n → (szTs l : Int) + loopT p l n ≤ n
  | [], n, _ => by simp only [loopT, szTs]; omega
  | t :: r, n, h0 => by
    simp only [loopT] at h0 ⊢
    by_cases hn : n ≤ 0
    · rw [if_pos hn] at h0; omega
    · rw [if_neg hn] at h0 ⊢
      have h1 := loopT_sz h r _ h0
      have h2 := h.1 t.kids (p.2 t.sub (n - 1)) (by omega)
      have h3 := h.2 t.sub (n - 1) (by omega)
      have h4 := t.sz_eq
      simp only [szTs]; omega
theorem loopA_sz {p : SpP} (h : SpSz p) : ∀ l n, 0 < loopA p l n → (szAs l : Int) + loopA p l n ≤ n
  | [], n, _ => by simp only [loopA, szAs]; omega
  | t :: r, n, h0 => by
    simp only [loopA] at h0 ⊢
    by_cases hn : n ≤ 0
    · rw [if_pos hn] at h0; omega
    · rw [if_neg hn] at h0 ⊢
      have h1 := loopA_sz h r _ h0
      have h2 := h.1 t.t (n - 1) (by omega)
      have h4 := t.sz_eq
      simp only [szAs]; omega
theorem loopR_sz {p : SpP} (h : SpSz p) : ∀ l n, 0 < loopR p l n → (szRs l : Int) + loopR p l n ≤ n
  | [], n, _ => by simp only [loopR, szRs]; omega
  | t :: r, n, h0 => by
    simp only [loopR] at h0 ⊢
    by_cases hn : n ≤ 0
    · rw [if_pos hn] at h0; omega
    · rw [if_neg hn] at h0 ⊢
      have h1 := loopR_sz h r _ h0
      have h2 := h.2 t.kids (loopA p t.aggs (p.1 t.terms (n - 1 - t.rows.length))) (by omega)
      have h3 := loopA_sz h t.aggs (p.1 t.terms (n - 1 - t.rows.length)) (by omega)
      have h5 := h.1 t.terms (n - 1 - t.rows.length) (by omega)
      have h4 := t.sz_eq
      simp only [szRs]; omega
theorem spD_sz : ∀ d, SpSz (spD d)
  | 0 => by
    constructor
    · intro l n h0
      simp only [spD] at h0 ⊢
      by_cases hc : l = [] ∨ n ≤ 0
      · rw [if_pos hc] at h0 ⊢
        rcases hc with rfl | hc
        · simp only [szTs]; omega
        · omega
      · rw [if_neg hc] at h0; omega
    · intro l n h0
      simp only [spD] at h0 ⊢
      by_cases hc : l = [] ∨ n ≤ 0
      · rw [if_pos hc] at h0 ⊢
        rcases hc with rfl | hc
        · simp only [szRs]; omega
        · omega
      · rw [if_neg hc] at h0; omega
  | d + 1 => ⟨loopT_sz (spD_sz d), loopR_sz (spD_sz d)⟩
theorem large_sz {t : Term} (h : l21_Large t ≠ true) : t.sz ≤ 600 := by
  unfold l21_Large at h
  rw [ne_eq, decide_eq_true_eq] at h
  have := (spD_sz 30).1 [t] 600 (by omega)
  simp only [szTs] at this; omega
/-! ### moving, told from another depth -/
def ShH (p q : Term → Int → Term) (D : Int) : Prop := ∀ (c : Term) (d : Int), WI c.depth → 0 ≤ d → d ≤ 1000000 → (p c d).at_ = (q c (D + d)).at_
mutual
theorem shT {p q : Term → Int → Term} {D : Int} (H : ShH p q D) : ∀ (t : Term) (d : Int), WS .term t → 0 ≤ d → d + t.sz ≤ 1000000 → mapT p d t = mapT q (D + d) t
  | .mk op v depth at_ name kids sub type, d, hw, h0, h1 => by
    have hk : WL .term kids := hw.term_kids
    have hs : WL .rel sub := hw.term_sub
    simp only [Term.sz] at h1
    have e1 := H (.mk op v depth at_ name kids sub type) d hw.term_depth h0 (by omega)
    simp only [mapT]
    rw [e1, shTs H kids d hk h0 (by omega), shRs H sub (d + 1) hs (by omega) (by omega), Int.add_assoc]
theorem shTs {p q : Term → Int → Term} {D : Int} (H : ShH p q D) : ∀ (l : List Term) (d : Int), WL .term l → 0 ≤ d → d + szTs l ≤ 1000000 → mapTs p d l = mapTs q (D + d) l
  | [], _, _, _, _ => rfl
  | t :: r, d, hw, h0, h1 => by
    simp only [szTs] at h1
    simp only [mapTs]
    rw [shT H t d (hw.get List.mem_cons_self) h0 (by omega), shTs H r d (hw.drop 1) h0 (by omega)]
theorem shA {p q : Term → Int → Term} {D : Int} (H : ShH p q D) : ∀ (a : Agg) (d : Int), WS .agg a → 0 ≤ d → d + a.sz ≤ 1000000 → mapA p d a = mapA q (D + d) a
  | .mk name distinct t, d, hw, h0, h1 => by
    have hk : WL .term t := hw.agg_t
    simp only [Agg.sz] at h1
    simp only [mapA]
    rw [shTs H t d hk h0 (by omega)]
theorem shAs {p q : Term → Int → Term} {D : Int} (H : ShH p q D) : ∀ (l : List Agg) (d : Int), WL .agg l → 0 ≤ d → d + szAs l ≤ 1000000 → mapAs p d l = mapAs q (D + d) l
  | [], _, _, _, _ => rfl
  | t :: r, d, hw, h0, h1 => by
    simp only [szAs] at h1
    simp only [mapAs]
    rw [shA H t d (hw.get List.mem_cons_self) h0 (by omega), shAs H r d (hw.drop 1) h0 (by omega)]
theorem shR {p q : Term → Int → Term} {D : Int} (H : ShH p q D) : ∀ (r : Rel) (d : Int), WS .rel r → 0 ≤ d → d + r.sz ≤ 1000000 → mapR p d r = mapR q (D + d) r
  | .mk op table cols kids terms aggs keys limit skip all rows, d, hw, h0, h1 => by
    have hk : WL .rel kids := hw.rel_kids
    have ht : WL .term terms := hw.rel_terms
    have ha : WL .agg aggs := hw.rel_aggs
    simp only [Rel.sz] at h1
    simp only [mapR]
    rw [shRs H kids d hk h0 (by omega), shTs H terms d ht h0 (by omega), shAs H aggs d ha h0 (by omega)]
theorem shRs {p q : Term → Int → Term} {D : Int} (H : ShH p q D) : ∀ (l : List Rel) (d : Int), WL .rel l → 0 ≤ d → d + szRs l ≤ 1000000 → mapRs p d l = mapRs q (D + d) l
  | [], _, _, _, _ => rfl
  | t :: r, d, hw, h0, h1 => by
    simp only [szRs] at h1
    simp only [mapRs]
    rw [shR H t d (hw.get List.mem_cons_self) h0 (by omega), shRs H r d (hw.drop 1) h0 (by omega)]
end
theorem move_eq {t : Term} {depth : Int} {at_ : List Int} (ht : WS .term t) (h : t.sz ≤ 1000000) (hd : -1000000 ≤ depth ∧ depth ≤ 1000000) : moveA t depth at_ = r21_Move t depth at_ := by
  have := shT (p := fun c d => moved1 c d depth (fun i => move1 i at_)) (q := mvP at_) (D := depth) (fun c d hc h0 h1 => by
    unfold WI at hc
    show (moved1 c d depth (fun i => move1 i at_)).at_ = (mvP at_ c (depth + d)).at_
    unfold moved1 mvP
    rw [IntKind.wrap_i64]
    by_cases e : c.depth = depth + d
    · rw [if_pos (by omega), if_pos e]
    · rw [if_neg (by omega), if_neg e]
      simp only [setAt, Term.at__mk]) t 0 ht (by omega) (by omega)
  rw [Int.add_zero] at this
  exact this
/-! ### all places are ints -/
mutual
theorem inT_WI : ∀ (d : Int) (t : Term), WS .term t → ∀ x ∈ inT d t, WI x
  | d, .mk op v depth at_ name kids sub type, hw, x, hx => by
    have hk : WL .term kids := hw.term_kids
    have hs : WL .rel sub := hw.term_sub
    simp only [inT, List.mem_append] at hx
    rcases hx with (hx | hx) | hx
    · split at hx
      · rw [List.mem_singleton] at hx; subst hx; exact hw.term_at_
      · simp at hx
    · exact inTs_WI d kids hk x hx
    · exact inRs_WI (d + 1) sub hs x hx
theorem inTs_WI : ∀ (d : Int) (l : List Term), WL .term l → ∀ x ∈ inTs d l, WI x
  | _, [], _, x, hx => by simp [inTs] at hx
  | d, t :: r, hw, x, hx => by
    simp only [inTs, List.mem_append] at hx
    rcases hx with hx | hx
    · exact inT_WI d t (hw.get List.mem_cons_self) x hx
    · exact inTs_WI d r (hw.drop 1) x hx
theorem inA_WI : ∀ (d : Int) (a : Agg), WS .agg a → ∀ x ∈ inA d a, WI x
  | d, .mk _ _ t, hw, x, hx => by
    have hk : WL .term t := hw.agg_t
    simp only [inA] at hx
    exact inTs_WI d t hk x hx
theorem inAs_WI : ∀ (d : Int) (l : List Agg), WL .agg l → ∀ x ∈ inAs d l, WI x
  | _, [], _, x, hx => by simp [inAs] at hx
  | d, t :: r, hw, x, hx => by
    simp only [inAs, List.mem_append] at hx
    rcases hx with hx | hx
    · exact inA_WI d t (hw.get List.mem_cons_self) x hx
    · exact inAs_WI d r (hw.drop 1) x hx
theorem inR_WI : ∀ (d : Int) (r : Rel), WS .rel r → ∀ x ∈ inR d r, WI x
  | d, .mk op table cols kids terms aggs keys limit skip all rows, hw, x, hx => by
    have hk : WL .rel kids := hw.rel_kids
    have ht : WL .term terms := hw.rel_terms
    have ha : WL .agg aggs := hw.rel_aggs
    simp only [inR, List.mem_append] at hx
    rcases hx with (hx | hx) | hx
    · exact inTs_WI d terms ht x hx
    · exact inAs_WI d aggs ha x hx
    · exact inRs_WI d kids hk x hx
theorem inRs_WI : ∀ (d : Int) (l : List Rel), WL .rel l → ∀ x ∈ inRs d l, WI x
  | _, [], _, x, hx => by simp [inRs] at hx
  | d, t :: r, hw, x, hx => by
    simp only [inRs, List.mem_append] at hx
    rcases hx with hx | hx
    · exact inR_WI d t (hw.get List.mem_cons_self) x hx
    · exact inRs_WI d r (hw.drop 1) x hx
end
theorem usesA_WI {t : Term} {d : Int} (ht : WS .term t) : ∀ x ∈ usesA t d, WI x := by
  intro x hx
  unfold usesA at hx
  rw [riseI_mem] at hx
  exact inT_WI d t ht x hx
/-! ### the sides of a pair -/
theorem rises_first {l : List Int} (h : Rises l) {x : Int} (hx : x ∈ l) : l.getD 0 0 ≤ x := by
  cases l with
  | nil => simp at hx
  | cons y l =>
    rw [List.getD_cons_zero]
    rcases List.mem_cons.1 hx with rfl | hx
    · omega
    · have := (List.pairwise_cons.1 h).1 x hx; omega
theorem rises_last : ∀ {l : List Int}, Rises l → ∀ {x : Int}, x ∈ l → x ≤ l.getD (l.length - 1) 0
  | [y], _, x, hx => by
    rw [List.mem_singleton] at hx; subst hx; exact Int.le_refl _
  | y :: z :: l, h, x, hx => by
    obtain ⟨h1, h2⟩ := List.pairwise_cons.1 h
    have e : (y :: z :: l).getD ((y :: z :: l).length - 1) 0 = (z :: l).getD ((z :: l).length - 1) 0 := rfl
    rw [e]
    rcases List.mem_cons.1 hx with rfl | hx
    · have h3 := h1 z List.mem_cons_self
      have h4 := rises_last h2 (x := z) List.mem_cons_self
      omega
    · exact rises_last h2 hx
theorem side_low {l : List Int} (h : Rises l) (cut : Int) : sideL l cut = -1 ↔ 0 < l.length ∧ ∀ x ∈ l, x < cut := by
  unfold sideL
  by_cases h0 : l.length = 0
  · rw [if_pos h0]
    constructor
    · intro e; exact absurd e (by decide)
    · intro e; omega
  · have hlast : l.getD (l.length - 1) 0 ∈ l := getD_mem (by omega)
    rw [if_neg h0]
    by_cases h1 : l.getD (l.length - 1) 0 < cut
    · rw [if_pos h1]
      exact ⟨fun _ => ⟨by omega, fun x hx => by have := rises_last h hx; omega⟩, fun _ => rfl⟩
    · rw [if_neg h1]
      constructor
      · intro e; split at e <;> omega
      · intro e; exact absurd (e.2 _ hlast) h1
theorem side_high {l : List Int} (h : Rises l) (cut : Int) : sideL l cut = 1 ↔ 0 < l.length ∧ ∀ x ∈ l, cut ≤ x := by
  unfold sideL
  by_cases h0 : l.length = 0
  · rw [if_pos h0]
    constructor
    · intro e; exact absurd e (by decide)
    · intro e; omega
  · have hlast : l.getD (l.length - 1) 0 ∈ l := getD_mem (by omega)
    have hfirst : l.getD 0 0 ∈ l := getD_mem (by omega)
    rw [if_neg h0]
    by_cases h1 : l.getD (l.length - 1) 0 < cut
    · rw [if_pos h1]
      constructor
      · intro e; exact absurd e (by decide)
      · intro e; have := e.2 _ hlast; omega
    · rw [if_neg h1]
      by_cases h2 : l.getD 0 0 ≥ cut
      · rw [if_pos h2]
        exact ⟨fun _ => ⟨by omega, fun x hx => by have := rises_first h hx; omega⟩, fun _ => rfl⟩
      · rw [if_neg h2]
        constructor
        · intro e; exact absurd e (by decide)
        · intro e; exact absurd (e.2 _ hfirst) h2
theorem uses_rises (t : Term) (d : Int) : Rises (usesA t d) := by unfold usesA; exact riseI_rises _
theorem below_side {t : Term} (ht : WS .term t) (cut : Int) : r21_below t cut = true ↔ side1 t cut = -1 := by
  unfold side1
  rw [side_low (uses_rises t 0)]
  unfold r21_below withinA
  simp only [Bool.and_eq_true, decide_eq_true_eq, List.all_eq_true]
  constructor
  · rintro ⟨h1, h2⟩; exact ⟨by omega, fun x hx => (h2 x hx).2⟩
  · rintro ⟨h1, h2⟩; exact ⟨by omega, fun x hx => ⟨by have := usesA_WI ht x hx; unfold WI at this; omega, h2 x hx⟩⟩
theorem above_side (t : Term) (cut : Int) : r21_above t cut = true ↔ side1 t cut = 1 := by
  unfold side1
  rw [side_high (uses_rises t 0)]
  unfold r21_above
  simp only [Bool.and_eq_true, decide_eq_true_eq, List.all_eq_true]
  constructor
  · rintro ⟨h1, h2⟩; exact ⟨by omega, h1⟩
  · rintro ⟨h1, h2⟩; exact ⟨h2, by omega⟩
theorem down2_at (c : Term) (d cut : Int) : (down2 c d cut).at_ = if c.depth = d then IntKind.i64.wrap (c.at_ - cut) else c.at_ := by
  unfold down2
  split
  · simp only [setAt, Term.at__mk]
  · rfl
mutual
theorem low_lower (cut : Int) : ∀ t : Term, plainT t = true → mapT (fun c d => down2 c d cut) 0 t = lowerT cut t
  | .mk op v depth at_ name kids sub type, h => by
    simp only [plainT, Bool.and_eq_true] at h
    have hs : sub = [] := List.isEmpty_iff.1 h.1
    subst hs
    simp only [mapT, lowerT, mapRs]
    rw [low_lowers cut kids h.2]
    simp only [down2_at, Term.depth_mk, Term.at__mk]
    by_cases e1 : op = 2
    · by_cases e2 : depth = 0
      · simp only [e1, e2, and_self, if_true]
      · simp only [e1, e2, and_false, if_true, if_false]
    · simp only [e1, false_and, if_false]
theorem low_lowers (cut : Int) : ∀ l : List Term, plainTs l = true → mapTs (fun c d => down2 c d cut) 0 l = lowerTs cut l
  | [], _ => rfl
  | t :: r, h => by
    simp only [plainTs, Bool.and_eq_true] at h
    simp only [mapTs, lowerTs]
    rw [low_lower cut t h.1, low_lowers cut r h.2]
end
theorem plainTs_mem {t : Term} : ∀ {l : List Term}, plainTs l = true → t ∈ l → plainT t = true
  | x :: l, h, hm => by
    simp only [plainTs, Bool.and_eq_true] at h
    rcases List.mem_cons.1 hm with rfl | hm
    · exact h.1
    · exact plainTs_mem h.2 hm
theorem pair_eq {t : Term} (ht : WS .term t) (cut : Int) : pairA t cut = r21_Pair t cut := by
  unfold pairA r21_Pair
  by_cases h : t.op = 11 ∧ t.kids.length = 2 ∧ plainT t = true
  · rw [if_pos h, if_pos h]
    obtain ⟨_, h2, h3⟩ := h
    rw [plainT_eq, Bool.and_eq_true] at h3
    have m0 : t.kids.getD 0 zeroTerm ∈ t.kids := getD_mem (by omega)
    have m1 : t.kids.getD 1 zeroTerm ∈ t.kids := getD_mem (by omega)
    have w0 := ht.term_kids.get m0
    have w1 := ht.term_kids.get m1
    have e0 : lowT cut (t.kids.getD 0 zeroTerm) = lowerT cut (t.kids.getD 0 zeroTerm) := low_lower cut _ (plainTs_mem h3.2 m0)
    have e1 : lowT cut (t.kids.getD 1 zeroTerm) = lowerT cut (t.kids.getD 1 zeroTerm) := low_lower cut _ (plainTs_mem h3.2 m1)
    rw [e0, e1]
    simp only [below_side w0, below_side w1, above_side]
    by_cases c0 : side1 (t.kids.getD 0 zeroTerm) cut = 1
    · by_cases c1 : side1 (t.kids.getD 1 zeroTerm) cut = -1
      · rw [if_pos ⟨c0, c1⟩, if_neg (by omega), if_pos ⟨c1, c0⟩]
      · rw [if_neg (by omega), if_neg (by omega), if_neg (by omega), if_neg (by omega)]
    · by_cases c2 : side1 (t.kids.getD 0 zeroTerm) cut = -1 ∧ side1 (t.kids.getD 1 zeroTerm) cut = 1
      · rw [if_neg (by omega), if_pos c2, if_pos c2]
      · rw [if_neg (by omega), if_neg c2, if_neg c2, if_neg (by omega)]
  · rw [if_neg h, if_neg h]
theorem deq_refl {α : Type} (a : α) : deq a a = true := deq_iff.2 rfl


/-! ### tabellionlaw21.ConjPairs -/
def M_l21_ConjPairs : Mc Un := mach (tbl [(8, F_l21_Large), (9, F_l21_awake), (23, F_conj_Pair), (24, F_r21_Pair), (13, F_algebra_SameTerm)]) (tbl []) (tbl []) (tbl []) (tbl [])
def A_l21_ConjPairs (r : Bool) : List (A Un) := [.c (.s (.bool r))]
def O_l21_ConjPairs (_r : Bool) : List (Ob Un) := []
def R_l21_ConjPairs (r : Bool) : RF Un := (A_l21_ConjPairs r, O_l21_ConjPairs r)
def N_l21_ConjPairs : Nat → NS := fun l => (look l []).getD ⟨[], [], [], [], []⟩
def l21_ConjPairs_fn (t : Term) (cut : Int) : Option (RF Un) := awf M_l21_ConjPairs N_l21_ConjPairs (bodyOf Try.f4) (entry Try.f4.ntmps 0 [.d (.agg (enc Ty.term t)), .d (.v (.s (.int .i64 cut)))]) (retF M_l21_ConjPairs Try.f4.results.toList [.d])
theorem l21_ConjPairs_in (t : Term) (cut : Int) : l21_ConjPairs_fn t cut =
 cndO (l21_Large (Term.ids t))
  (some (R_l21_ConjPairs (l21_awake)))
  (cndO (decide (cut < (-1000 : Int)))
   (some (R_l21_ConjPairs (l21_awake)))
   (cndO (decide (cut > 1000))
    (some (R_l21_ConjPairs (l21_awake)))
    (obO ((Term.ids t).sz ≤ (1000000 : Nat))
     (obO ((Term.ids t).sz ≤ (1000000 : Nat))
      (cndO (l21_awake)
       (cndO (algebra_SameTerm (Term.ids ((conj_Pair (Term.ids t) cut).fst)) (Term.ids ((r21_Pair (Term.ids t) cut).fst)))
        (cndO (algebra_SameTerm (Term.ids ((conj_Pair (Term.ids t) cut).snd.fst)) (Term.ids ((r21_Pair (Term.ids t) cut).snd.fst)))
         (some (R_l21_ConjPairs ((conj_Pair (Term.ids t) cut).snd.snd == (r21_Pair (Term.ids t) cut).snd.snd)))
         (some (R_l21_ConjPairs (false))))
        (some (R_l21_ConjPairs (false))))
       (some (R_l21_ConjPairs (false)))))))) := by kernel_rfl

def l21_ConjPairs (_t : Term) (_cut : Int) : Bool := true
theorem l21_ConjPairs_spec (t : Term) (cut : Int) (ht : WS .term t) (_hc : WI cut) : l21_ConjPairs_fn t cut = some (R_l21_ConjPairs (l21_ConjPairs t cut)) := by
  rw [l21_ConjPairs_in]
  simp only [Term.ids_eq, term_eta, conj_Pair_eq, algebra_SameTerm, pair_eq ht, deq_refl, beq_self_eq_true, l21_awake]
  unfold l21_ConjPairs
  cases hL : l21_Large t with
  | true => rfl
  | false =>
    have hs := large_sz (t := t) (by rw [hL]; decide)
    simp only [cndO_eq, decide_eq_true_eq]
    rw [obO_pos (by omega), obO_pos (by omega)]
    simp

def F_l21_ConjPairs : FnC Un := fun args => match args with
  | [x0, x1] => (dS .term x0).bind fun t => (dI .i64 x1).bind fun cut => some ([], A_l21_ConjPairs (l21_ConjPairs t cut), O_l21_ConjPairs (l21_ConjPairs t cut))
  | _ => none

theorem ok_l21_ConjPairs : FnOK 4 F_l21_ConjPairs := by
  intro args ob rs os h hob
  unfold F_l21_ConjPairs at h
  split at h
  · simp only [Option.bind_eq_some_iff, Option.some.injEq, Prod.mk.injEq] at h
    obtain ⟨t, e0, cut, e1, rfl, rfl, rfl⟩ := h
    obtain rfl := dS_eq e0
    obtain rfl := dI_eq e1
    exact ⟨fn_contractF (M := M_l21_ConjPairs) rfl (tbl_ok (l1 := [(8, F_l21_Large), (9, F_l21_awake), (23, F_conj_Pair), (24, F_r21_Pair), (13, F_algebra_SameTerm)]) (l2 := []) (l3 := []) (l4 := []) (l5 := []) ⟨ok_l21_Large, ok_l21_awake, ok_conj_Pair, ok_r21_Pair, ok_algebra_SameTerm, trivial⟩ trivial trivial trivial trivial) Try.func4 (by kernel_rfl) N_l21_ConjPairs 0 [.d] (fun hwf => (l21_ConjPairs_spec t cut (wfArg hwf (a := .d (.agg (enc Ty.term t))) (List.mem_of_getElem? (i := 0) rfl)) (wfArg hwf (a := .d (.v (.s (.int .i64 cut)))) (List.mem_of_getElem? (i := 1) rfl)))), hasBody_of Try.func4 (by kernel_rfl) (by kernel_rfl)⟩
  · simp at h


/-! ### tabellionlaw21.ConjSays -/
def M_l21_ConjSays : Mc Un := mach (tbl [(8, F_l21_Large), (9, F_l21_awake), (10, F_conj_Split), (12, F_r21_Split), (11, F_r21_List), (14, F_conj_Join), (15, F_r21_Join), (13, F_algebra_SameTerm), (17, F_conj_Uses), (18, F_r21_Uses), (16, F_r14_Ints), (19, F_conj_Move), (20, F_r21_Move), (21, F_conj_Within), (22, F_r21_Within)]) (tbl []) (tbl []) (tbl []) (tbl [])
def A_l21_ConjSays (r : Bool) : List (A Un) := [.c (.s (.bool r))]
def O_l21_ConjSays (_r : Bool) : List (Ob Un) := []
def R_l21_ConjSays (r : Bool) : RF Un := (A_l21_ConjSays r, O_l21_ConjSays r)
def N_l21_ConjSays : Nat → NS := fun l => (look l []).getD ⟨[], [], [], [], []⟩
def l21_ConjSays_fn (t : Term) (depth : Int) (at_ : List Int) : Option (RF Un) := awf M_l21_ConjSays N_l21_ConjSays (bodyOf Try.f3) (entry Try.f3.ntmps 0 [.d (.agg (enc Ty.term t)), .d (.v (.s (.int .i64 depth))), .d (.v (.dat (U := Un) Ty.int at_))]) (retF M_l21_ConjSays Try.f3.results.toList [.d])
theorem l21_ConjSays_in (t : Term) (depth : Int) (at_ : List Int) : l21_ConjSays_fn t depth at_ =
 cndO (l21_Large (Term.ids t))
  (some (R_l21_ConjSays (l21_awake)))
  (cndO (decide ((↑at_.length : Int) > (50 : Int)))
   (some (R_l21_ConjSays (l21_awake)))
   (cndO (decide (depth < (-1000 : Int)))
    (some (R_l21_ConjSays (l21_awake)))
    (cndO (decide (depth > 1000))
     (some (R_l21_ConjSays (l21_awake)))
     (obO ((Term.ids t).sz ≤ (1000000 : Nat))
      (obO ((Term.ids t).sz ≤ (1000000 : Nat))
       (cndO (!r21_List (conj_Split (Term.ids t)) (r21_Split (Term.ids t)))
        (some (R_l21_ConjSays (false)))
        (cndO (!algebra_SameTerm (Term.ids (conj_Join (conj_Split (Term.ids t)))) (Term.ids (r21_Join (conj_Split (Term.ids t)))))
         (some (R_l21_ConjSays (false)))
         (obO (useOK (Term.ids t) depth)
          (obO (inOK depth (Term.ids t).sz)
           (cndO (!r14_Ints (conj_Uses (Term.ids t) depth) (r21_Uses (Term.ids t) depth))
            (some (R_l21_ConjSays (false)))
            (cndO (decide ((↑at_.length : Int) > (1 : Int)))
             (obO ((0 : Int) ≤ (0 : Int) ∧ (0 : Int) < (↑at_.length : Int))
              (obO ((0 : Int) ≤ (1 : Int) ∧ (1 : Int) < (↑at_.length : Int))
               (cndO (l21_awake)
                (obO ((Term.ids t).sz ≤ (1000000 : Nat))
                 (obO (inOK depth (Term.ids t).sz)
                  (cndO (algebra_SameTerm (Term.ids (conj_Move (Term.ids t) depth at_)) (Term.ids (r21_Move (Term.ids t) depth at_)))
                   (obO ((Term.ids t).sz ≤ (1000000 : Nat))
                    (obO ((Term.ids t).sz ≤ (1000000 : Nat))
                     (some (R_l21_ConjSays (conj_Within (Term.ids t) (at_.getD 0 (0 : Int)) (at_.getD 1 (0 : Int)) == r21_Within (Term.ids t) (at_.getD 0 (0 : Int)) (at_.getD 1 (0 : Int)))))))
                   (some (R_l21_ConjSays (false))))))
                (some (R_l21_ConjSays (false))))))
             (cndO (l21_awake)
              (obO ((Term.ids t).sz ≤ (1000000 : Nat))
               (obO (inOK depth (Term.ids t).sz)
                (cndO (algebra_SameTerm (Term.ids (conj_Move (Term.ids t) depth at_)) (Term.ids (r21_Move (Term.ids t) depth at_)))
                 (obO ((Term.ids t).sz ≤ (1000000 : Nat))
                  (obO ((Term.ids t).sz ≤ (1000000 : Nat))
                   (some (R_l21_ConjSays (conj_Within (Term.ids t) (0 : Int) (↑at_.length : Int) == r21_Within (Term.ids t) (0 : Int) (↑at_.length : Int))))))
                 (some (R_l21_ConjSays (false))))))
              (some (R_l21_ConjSays (false))))))))))))))) := by kernel_rfl

def l21_ConjSays (_t : Term) (_depth : Int) (_at_ : List Int) : Bool := true
theorem l21_ConjSays_spec (t : Term) (depth : Int) (at_ : List Int) (ht : WS .term t) (_hd : WI depth) (ha : WL .int at_) : l21_ConjSays_fn t depth at_ = some (R_l21_ConjSays (l21_ConjSays t depth at_)) := by
  rw [l21_ConjSays_in]
  simp only [Term.ids_eq, term_eta, conj_Split_eq, r21_Split_eq, conj_Join_eq, r21_Join_eq, r21_List, r14_Ints, conj_Uses_eq, r21_Uses, conj_Within_eq, r21_Within, conj_Move_eq, algebra_SameTerm, deq_refl, beq_self_eq_true, l21_awake, Bool.not_true]
  unfold l21_ConjSays
  cases hL : l21_Large t with
  | true => rfl
  | false =>
    have hs := large_sz (t := t) (by rw [hL]; decide)
    simp only [cndO_eq, decide_eq_true_eq]
    by_cases h1 : (at_.length : Int) > 50
    · rw [if_neg (by decide), if_pos h1]
    · by_cases h2 : depth < -1000
      · rw [if_neg (by decide), if_neg h1, if_pos h2]
      · by_cases h3 : depth > 1000
        · rw [if_neg (by decide), if_neg h1, if_neg h2, if_pos h3]
        · have hm := move_eq (at_ := at_) ht (by omega : t.sz ≤ 1000000) (by omega : -1000000 ≤ depth ∧ depth ≤ 1000000)
          have o1 : inOK depth t.sz := ⟨by omega, by omega, by omega⟩
          have o2 : useOK t depth := ⟨by omega, by omega⟩
          have o3 : t.sz ≤ 1000000 := by omega
          rw [if_neg (by decide), if_neg h1, if_neg h2, if_neg h3, obO_pos o3, obO_pos o3, if_neg (by decide), if_neg (by decide), obO_pos o2, obO_pos o1, if_neg (by decide), hm, obO_pos o3, obO_pos o1, obO_pos o3, obO_pos o3]
          by_cases h4 : (at_.length : Int) > 1
          · rw [if_pos h4, obO_pos (by omega), obO_pos (by omega)]
            simp [deq_refl]
          · rw [if_neg h4]
            simp [deq_refl]

def F_l21_ConjSays : FnC Un := fun args => match args with
  | [x0, x1, x2] => (dS .term x0).bind fun t => (dI .i64 x1).bind fun depth => (dL .int x2).bind fun at_ => some ([], A_l21_ConjSays (l21_ConjSays t depth at_), O_l21_ConjSays (l21_ConjSays t depth at_))
  | _ => none

theorem ok_l21_ConjSays : FnOK 3 F_l21_ConjSays := by
  intro args ob rs os h hob
  unfold F_l21_ConjSays at h
  split at h
  · simp only [Option.bind_eq_some_iff, Option.some.injEq, Prod.mk.injEq] at h
    obtain ⟨t, e0, depth, e1, at_, e2, rfl, rfl, rfl⟩ := h
    obtain rfl := dS_eq e0
    obtain rfl := dI_eq e1
    obtain rfl := dL_eq e2
    exact ⟨fn_contractF (M := M_l21_ConjSays) rfl (tbl_ok (l1 := [(8, F_l21_Large), (9, F_l21_awake), (10, F_conj_Split), (12, F_r21_Split), (11, F_r21_List), (14, F_conj_Join), (15, F_r21_Join), (13, F_algebra_SameTerm), (17, F_conj_Uses), (18, F_r21_Uses), (16, F_r14_Ints), (19, F_conj_Move), (20, F_r21_Move), (21, F_conj_Within), (22, F_r21_Within)]) (l2 := []) (l3 := []) (l4 := []) (l5 := []) ⟨ok_l21_Large, ok_l21_awake, ok_conj_Split, ok_r21_Split, ok_r21_List, ok_conj_Join, ok_r21_Join, ok_algebra_SameTerm, ok_conj_Uses, ok_r21_Uses, ok_r14_Ints, ok_conj_Move, ok_r21_Move, ok_conj_Within, ok_r21_Within, trivial⟩ trivial trivial trivial trivial) Try.func3 (by kernel_rfl) N_l21_ConjSays 0 [.d] (fun hwf => (l21_ConjSays_spec t depth at_ (wfArg hwf (a := .d (.agg (enc Ty.term t))) (List.mem_of_getElem? (i := 0) rfl)) (wfArg hwf (a := .d (.v (.s (.int .i64 depth)))) (List.mem_of_getElem? (i := 1) rfl)) (wfArg hwf (a := .d (.v (.dat (U := Un) Ty.int at_))) (List.mem_of_getElem? (i := 2) rfl)))), hasBody_of Try.func3 (by kernel_rfl) (by kernel_rfl)⟩
  · simp at h


end
end Go.Proofs.Ytaepcbdcjbfgjaa.B
