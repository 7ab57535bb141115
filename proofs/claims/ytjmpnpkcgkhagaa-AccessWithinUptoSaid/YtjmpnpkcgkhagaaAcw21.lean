/- Part 21 of the proof: Slaw26w. -/
import Derived.Test.YtjmpnpkcgkhagaaAcw20
namespace Go.Proofs.Ytjmpnpkcgkhagaa.B
open Go Go.RowKit
set_option maxRecDepth 100000
noncomputable section
attribute [local irreducible] awp ctxK itersK iterK retQ retGQ awf ctxF loopF
theorem scanI_inr {σ ρ α : Type} {f : σ → Nat → α → σ ⊕ ρ} {P : ρ → Prop} (h : ∀ a i x r, f a i x = .inr r → P r) : ∀ (l : List α) (i : Nat) (a : σ) {r : ρ}, scanI f i l a = .inr r → P r
  | [], _, _, _, e => by simp [scanI] at e
  | x :: l, i, a, r, e => by
    simp only [scanI] at e
    split at e
    · exact scanI_inr h l _ _ e
    · rename_i hf; cases e; exact h _ _ _ _ hf
def M_l26_AccessWithin : Mc Un := mach (tbl [(4, F_l26_awake), (5, F_access_Range), (6, F_value_Rights), (7, F_scalar_Truth), (8, F_r26_Within)]) (tbl []) (tbl []) (tbl []) (tbl [])
def A_l26_AccessWithin (r : Bool) : List (A Un) := [.c (.s (.bool r))]
def O_l26_AccessWithin (_r : Bool) : List (Ob Un) := []
def R_l26_AccessWithin (r : Bool) : RF Un := (A_l26_AccessWithin r, O_l26_AccessWithin r)
def N_l26_AccessWithin : Nat → NS := fun l => (look l [(8, { ts := bl 150 3527, bs := bl 150 384, nm := [(.sl 10, 600)], cs := true }), (16, { ts := bl 150 5573, bs := bl 150 384, nm := [(.sl 10, 601)], cs := true })]).getD ⟨[], [], [], [], [], true⟩
def l26_AccessWithin_s8 (terms : List Term) (cols : List Int) (r : List Val) (v0 : Int) (v1 : List Val) : S Un := (st 150 150 602 0 [(0, al .term terms), (1, al .int cols), (2, al .val r), (6, ab false), (7, ax 7), (8, ax 8), (10, ao 600), (11, ai v0)] [(7, some (false, encC Ty.bound ((access_Range terms cols).fst))), (8, some (false, encC Ty.bound ((access_Range terms cols).snd.fst)))] [(600, some ⟨(0 : Nat), Ty.val, v1, some (0 : Nat), true⟩)])
def l26_AccessWithin_e8_ret (terms : List Term) (cols : List Int) (r : List Val) (v0 : Int) (v1 : List Val) (v2 : Bool) : S Un := (st 150 150 602 0 [(0, al .term terms), (1, al .int cols), (2, al .val r), (6, ab v2), (7, ax 7), (8, ax 8), (10, ao 600), (11, ai v0)] [(7, some (false, encC Ty.bound ((access_Range terms cols).fst))), (8, some (false, encC Ty.bound ((access_Range terms cols).snd.fst)))] [(600, some ⟨(0 : Nat), Ty.val, v1, some (0 : Nat), true⟩)])
def l26_AccessWithin_s16 (terms : List Term) (cols : List Int) (r : List Val) (v1 : List Val) (v3 : Int) : S Un := (st 150 150 602 0 [(0, al .term terms), (2, al .val r), (6, ab false), (7, ax 7), (8, ax 8), (10, ao 601), (12, ai v3)] [(7, some (false, encC Ty.bound ((access_Range terms cols).fst))), (8, some (false, encC Ty.bound ((access_Range terms cols).snd.fst)))] [(601, some ⟨(0 : Nat), Ty.val, v1, some (0 : Nat), true⟩)])
def l26_AccessWithin_e16_ret (terms : List Term) (cols : List Int) (r : List Val) (v1 : List Val) (v3 : Int) (v4 : Bool) : S Un := (st 150 150 602 0 [(0, al .term terms), (2, al .val r), (6, ab v4), (7, ax 7), (8, ax 8), (10, ao 601), (12, ai v3)] [(7, some (false, encC Ty.bound ((access_Range terms cols).fst))), (8, some (false, encC Ty.bound ((access_Range terms cols).snd.fst)))] [(601, some ⟨(0 : Nat), Ty.val, v1, some (0 : Nat), true⟩)])
def l26_AccessWithin_B8 : Code := sub (bodyOf Try.f3) [1, 1, 1, 1, 1, 0, 1, 2, 2]
def l26_AccessWithin_L8 : S Un → Option (EX Un) := loopF (N_l26_AccessWithin 8) (fun s Q => awf M_l26_AccessWithin N_l26_AccessWithin l26_AccessWithin_B8 s Q)
def l26_AccessWithin_B16 : Code := sub (bodyOf Try.f3) [1, 1, 1, 1, 1, 1, 1, 0, 1, 2, 2]
def l26_AccessWithin_L16 : S Un → Option (EX Un) := loopF (N_l26_AccessWithin 16) (fun s Q => awf M_l26_AccessWithin N_l26_AccessWithin l26_AccessWithin_B16 s Q)
def l26_AccessWithin_C8 : Exit → S Un → Option (RF Un) := ctxF M_l26_AccessWithin N_l26_AccessWithin (bodyOf Try.f3) [1, 1, 1, 1, 1, 0, 1, 2] (retF M_l26_AccessWithin Try.f3.results.toList [.d])
def l26_AccessWithin_C16 : Exit → S Un → Option (RF Un) := ctxF M_l26_AccessWithin N_l26_AccessWithin (bodyOf Try.f3) [1, 1, 1, 1, 1, 1, 1, 0, 1, 2] (retF M_l26_AccessWithin Try.f3.results.toList [.d])
def l26_AccessWithin_fn (terms : List Term) (cols : List Int) (r : List Val) : Option (RF Un) := awf M_l26_AccessWithin N_l26_AccessWithin (bodyOf Try.f3) (entry Try.f3.ntmps 2 [.d (.v (.dat (U := Un) Ty.term terms)), .d (.v (.dat (U := Un) Ty.int cols)), .d (.v (.dat (U := Un) Ty.val r))]) (retF M_l26_AccessWithin Try.f3.results.toList [.d])
def l26_AccessWithin_t1 (terms : List Term) (cols : List Int) (r : List Val) : Option (RF Un) :=
 cndO ((access_Range terms cols).snd.snd == 0)
  (cndO ((access_Range terms cols).fst.is)
   (some (R_l26_AccessWithin (false)))
   (cndO ((access_Range terms cols).snd.fst.is)
    (some (R_l26_AccessWithin (false)))
    ((l26_AccessWithin_L8 (l26_AccessWithin_s8 terms cols r (0 : Int) ([]))).bind (thenX l26_AccessWithin_C8))))
  ((l26_AccessWithin_L8 (l26_AccessWithin_s8 terms cols r (0 : Int) ([]))).bind (thenX l26_AccessWithin_C8))
theorem l26_AccessWithin_in (terms : List Term) (cols : List Int) (r : List Val) : l26_AccessWithin_fn terms cols r =
 cndO (decide ((↑terms.length : Int) > (60 : Int)))
  (some (R_l26_AccessWithin (true)))
  (cndO (decide ((↑cols.length : Int) > (20 : Int)))
   (some (R_l26_AccessWithin (true)))
   (obO (cols.length ≤ (100000 : Nat))
    (cndO (decide ((access_Range terms cols).snd.snd < 0))
     (some (R_l26_AccessWithin (false)))
     (cndO (decide ((access_Range terms cols).snd.snd > (↑cols.length : Int)))
      (some (R_l26_AccessWithin (false)))
      (cndO (decide ((↑(access_Range terms cols).fst.key.length : Int) > (access_Range terms cols).snd.snd))
       (some (R_l26_AccessWithin (false)))
       (cndO (decide ((↑(access_Range terms cols).snd.fst.key.length : Int) > (access_Range terms cols).snd.snd))
        (some (R_l26_AccessWithin (false)))
        (cndO (decide ((access_Range terms cols).snd.snd > 0))
         (cndO (decide ((↑(access_Range terms cols).fst.key.length : Int) < IntKind.i64.wrap ((access_Range terms cols).snd.snd - 1)))
          (some (R_l26_AccessWithin (false)))
          (cndO (decide ((↑(access_Range terms cols).snd.fst.key.length : Int) < IntKind.i64.wrap ((access_Range terms cols).snd.snd - 1)))
           (some (R_l26_AccessWithin (false)))
           (cndO (!(access_Range terms cols).fst.is)
            (cndO (!(access_Range terms cols).snd.fst.is)
             (some (R_l26_AccessWithin (false)))
             (l26_AccessWithin_t1 terms cols r))
            (l26_AccessWithin_t1 terms cols r))))
         (l26_AccessWithin_t1 terms cols r)))))))) := by kernel_rfl
theorem l26_AccessWithin_l8 (terms : List Term) (cols : List Int) (r : List Val) (v0 : Int) (v1 : List Val) : l26_AccessWithin_L8 (l26_AccessWithin_s8 terms cols r v0 v1) =
 cndO (decide (v0 < (↑cols.length : Int)))
  (obO (0 ≤ v0 ∧ v0 < (↑cols.length : Int))
   (cndO (decide (cols.getD v0.toNat (0 : Int) < (0 : Int)))
    (some (.ret, (l26_AccessWithin_e8_ret terms cols r v0 v1 true)))
    (obO (0 ≤ v0 ∧ v0 < (↑cols.length : Int))
     (cndO (decide (cols.getD v0.toNat (0 : Int) ≥ (↑r.length : Int)))
      (some (.ret, (l26_AccessWithin_e8_ret terms cols r v0 v1 true)))
      (obO (0 ≤ v0 ∧ v0 < (↑cols.length : Int))
       (obO (0 ≤ cols.getD v0.toNat (0 : Int) ∧ cols.getD v0.toNat (0 : Int) < (↑r.length : Int))
        (obO ((v1.length + [(r.getD (Int.toNat (cols.getD v0.toNat (0 : Int))) zeroVal)].length) * (32 : Nat) ≤ roomB)
         (l26_AccessWithin_L8 (l26_AccessWithin_s8 terms cols r (IntKind.i64.wrap (v0 + 1)) (v1 ++ [(r.getD (Int.toNat (cols.getD v0.toNat (0 : Int))) zeroVal)]))))))))))
  (some (.exit 0, (l26_AccessWithin_s8 terms cols r v0 v1))) := (loopF_eq (N_l26_AccessWithin 8) l26_AccessWithin_B8 _).trans (by kernel_rfl)
theorem l26_AccessWithin_a8_ret (terms : List Term) (cols : List Int) (r : List Val) (v0 : Int) (v1 : List Val) (v2 : Bool) : l26_AccessWithin_C8 .ret (l26_AccessWithin_e8_ret terms cols r v0 v1 v2) =
 some (R_l26_AccessWithin (v2)) := by kernel_rfl
theorem l26_AccessWithin_a8_x0 (terms : List Term) (cols : List Int) (r : List Val) (v0 : Int) (v1 : List Val) : l26_AccessWithin_C8 (.exit 0) (l26_AccessWithin_s8 terms cols r v0 v1) =
 cndO (!value_Rights r)
  (some (R_l26_AccessWithin (true)))
  ((l26_AccessWithin_L16 (l26_AccessWithin_s16 terms cols r v1 (0 : Int))).bind (thenX l26_AccessWithin_C16)) := by kernel_rfl
theorem l26_AccessWithin_l16 (terms : List Term) (cols : List Int) (r : List Val) (v1 : List Val) (v3 : Int) : l26_AccessWithin_L16 (l26_AccessWithin_s16 terms cols r v1 v3) =
 cndO (decide (v3 < (↑terms.length : Int)))
  (obO (0 ≤ v3 ∧ v3 < (↑terms.length : Int))
   (obO ((Term.ids (terms.getD v3.toNat zeroTerm)).sz ≤ (2000000 : Nat))
    (obO (strT (Term.ids (terms.getD v3.toNat zeroTerm)))
     (obO (envOK [r])
      (cndO (scalar_Truth (Term.ids (terms.getD v3.toNat zeroTerm)) [r] != 2)
       (some (.ret, (l26_AccessWithin_e16_ret terms cols r v1 v3 true)))
       (l26_AccessWithin_L16 (l26_AccessWithin_s16 terms cols r v1 (IntKind.i64.wrap (v3 + 1)))))))))
  (some (.exit 2, (l26_AccessWithin_s16 terms cols r v1 v3))) := (loopF_eq (N_l26_AccessWithin 16) l26_AccessWithin_B16 _).trans (by kernel_rfl)
theorem l26_AccessWithin_a16_ret (terms : List Term) (cols : List Int) (r : List Val) (v1 : List Val) (v3 : Int) (v4 : Bool) : l26_AccessWithin_C16 .ret (l26_AccessWithin_e16_ret terms cols r v1 v3 v4) =
 some (R_l26_AccessWithin (v4)) := by kernel_rfl
theorem l26_AccessWithin_a16_x2 (terms : List Term) (cols : List Int) (r : List Val) (v1 : List Val) (v3 : Int) : l26_AccessWithin_C16 (.exit 2) (l26_AccessWithin_s16 terms cols r v1 v3) =
 some (R_l26_AccessWithin (r26_Within v1 (access_Range terms cols).fst (access_Range terms cols).snd.fst)) := by kernel_rfl
def l26_AccessWithin (_terms : List Term) (_cols : List Int) (_r : List Val) : Bool := true
def keyF (terms : List Term) (cols : List Int) (r : List Val) (s : List Val) (i : Nat) (x : Int) : List Val ⊕ EX Un :=
  if x < 0 ∨ x ≥ (r.length : Int) then .inr (.ret, l26_AccessWithin_e8_ret terms cols r (i : Int) s true) else .inl (s ++ [r.getD x.toNat zeroVal])
def truF (terms : List Term) (cols : List Int) (r key : List Val) (_s : Unit) (i : Nat) (x : Term) : Unit ⊕ EX Un :=
  if scalar_Truth x [r] = 2 then .inl () else .inr (.ret, l26_AccessWithin_e16_ret terms cols r key (i : Int) true)
theorem key_snoc {r : List Val} {cols : List Int} {i : Nat} {x : Int} (hi : i < cols.length) (hx : cols.getD i 0 = x) : keyOf r (cols.take (i + 1)) = keyOf r (cols.take i) ++ [r.getD x.toNat zeroVal] := by
  have e : cols[i] = x := by rw [← hx, List.getD_eq_getElem?_getD, List.getElem?_eq_getElem hi]; rfl
  unfold keyOf
  rw [List.take_add_one, List.getElem?_eq_getElem hi, e, List.map_append]
  rfl
theorem within_loop2 (terms : List Term) (cols : List Int) (r : List Val) (_ht : WL .term terms) (h1 : szTs terms ≤ 2000000) (h2 : strTs terms) (h3 : envOK [r]) (hr : r.all rightV = true) (hc : ∀ c ∈ cols, 0 ≤ c ∧ c < (r.length : Int)) :
    (l26_AccessWithin_L16 (l26_AccessWithin_s16 terms cols r (keyOf r cols) (0 : Int))).bind (thenX l26_AccessWithin_C16) = some (R_l26_AccessWithin true) := by
  have lp := loop_scan (e := .exit 2) (L := l26_AccessWithin_L16) (st := fun (_ : Unit) i => l26_AccessWithin_s16 terms cols r (keyOf r cols) i) (l := terms) (d := zeroTerm) (f := truF terms cols r (keyOf r cols)) (fun i _ => ∀ j, j < i → scalar_Truth (terms.getD j zeroTerm) [r] = 2) _ht.len
    (fun s i x hi hx hI => by
      have hmem : x ∈ terms := by rw [← hx, List.getD_eq_getElem?_getD, List.getElem?_eq_getElem (by omega)]; exact List.getElem_mem _
      have hxs := szTs_mem hmem
      have e := l26_AccessWithin_l16 terms cols r (keyOf r cols) (i : Int)
      simp only [cndO_eq, hi, decide_true, if_true, and_true, Int.toNat_natCast, hx, Term.ids_eq] at e
      rw [obO_pos (by omega), obO_pos (by omega), obO_pos (strTs_mem.1 h2 x hmem), obO_pos h3] at e
      by_cases c : scalar_Truth x [r] = 2
      · have hf : truF terms cols r (keyOf r cols) s i x = .inl () := by unfold truF; rw [if_pos c]
        rw [hf]
        refine ⟨fun j hj => ?_, ?_⟩
        · by_cases ej : j = i
          · rw [ej, hx]; exact c
          · exact hI j (by omega)
        · show l26_AccessWithin_L16 _ = _
          rw [e, if_neg (by simp [c])]
      · have hf : truF terms cols r (keyOf r cols) s i x = .inr (.ret, l26_AccessWithin_e16_ret terms cols r (keyOf r cols) (i : Int) true) := by unfold truF; rw [if_neg c]
        rw [hf]
        show l26_AccessWithin_L16 _ = _
        rw [e, if_pos (by simpa using c)])
    (fun s _ => by
      show l26_AccessWithin_L16 _ = _
      rw [l26_AccessWithin_l16]; simp [cndO_eq]) () (fun j hj => by omega)
  split at lp
  · rename_i s hsc
    obtain ⟨lp, hI⟩ := lp
    refine (loop_end lp).trans ?_
    have hall : ∀ t ∈ terms, scalar_Truth t [r] = 2 := fun t hm => by
      obtain ⟨j, hj, e⟩ := List.getElem_of_mem hm
      have := hI j hj
      rw [List.getD_eq_getElem?_getD, List.getElem?_eq_getElem hj, Option.getD_some, e] at this
      exact this
    show l26_AccessWithin_C16 (.exit 2) _ = _
    rw [l26_AccessWithin_a16_x2]
    have hw : r26_Within (keyOf r cols) (access_Range terms cols).fst (access_Range terms cols).snd.fst = true := within_law hr hall hc
    rw [hw]
  · rename_i x hsc
    have hr : ∃ i, x = (.ret, l26_AccessWithin_e16_ret terms cols r (keyOf r cols) i true) := by
      refine scanI_inr (P := fun x => ∃ i, x = (.ret, l26_AccessWithin_e16_ret terms cols r (keyOf r cols) i true)) (fun a i x r' hf => ?_) terms 0 _ hsc
      unfold truF at hf
      split at hf
      · cases hf
      · cases hf; exact ⟨_, rfl⟩
    obtain ⟨i, rfl⟩ := hr
    refine (loop_end lp).trans ?_
    rw [l26_AccessWithin_a16_ret]
theorem within_loop1 (terms : List Term) (cols : List Int) (r : List Val) (_ht : WL .term terms) (hcl : WL .int cols) (hl : cols.length ≤ 20) (h1 : szTs terms ≤ 2000000) (h2 : strTs terms) (h3 : envOK [r]) :
    (l26_AccessWithin_L8 (l26_AccessWithin_s8 terms cols r (0 : Int) [])).bind (thenX l26_AccessWithin_C8) = some (R_l26_AccessWithin true) := by
  have lp := loop_scan (e := .exit 0) (L := l26_AccessWithin_L8) (st := fun (s : List Val) i => l26_AccessWithin_s8 terms cols r i s) (l := cols) (d := 0) (f := keyF terms cols r) (fun i s => s = keyOf r (cols.take i) ∧ s.length = i ∧ ∀ j, j < i → 0 ≤ cols.getD j 0 ∧ cols.getD j 0 < (r.length : Int)) hcl.len
    (fun s i x hi hx hI => by
      obtain ⟨hI, hI2, hI3⟩ := hI
      have e := l26_AccessWithin_l8 terms cols r (i : Int) s
      simp only [cndO_eq, hi, decide_true, if_true, and_true, Int.toNat_natCast, hx, decide_eq_true_eq] at e
      rw [obO_pos (by omega)] at e
      by_cases c : x < 0 ∨ x ≥ (r.length : Int)
      · have hf : keyF terms cols r s i x = .inr (.ret, l26_AccessWithin_e8_ret terms cols r (i : Int) s true) := by unfold keyF; rw [if_pos c]
        rw [hf]
        show l26_AccessWithin_L8 _ = _
        rw [e]
        by_cases c1 : x < 0
        · rw [if_pos c1]
        · rw [if_neg c1, obO_pos (by omega), if_pos (by omega)]
      · have hf : keyF terms cols r s i x = .inl (s ++ [r.getD x.toNat zeroVal]) := by unfold keyF; rw [if_neg c]
        rw [hf]
        refine ⟨⟨?_, by rw [List.length_append, List.length_singleton, hI2], fun j hj => ?_⟩, ?_⟩
        · rw [key_snoc (by omega) hx, ← hI]
        · by_cases ej : j = i
          · rw [ej, hx]; omega
          · exact hI3 j (by omega)
        · show l26_AccessWithin_L8 _ = _
          rw [e, if_neg (by omega), obO_pos (by omega), if_neg (by omega), obO_pos (by omega), obO_pos (by omega), obO_pos (by unfold roomB; rw [List.length_singleton]; omega)])
    (fun s _ => by
      show l26_AccessWithin_L8 _ = _
      rw [l26_AccessWithin_l8]; simp [cndO_eq]) [] ⟨rfl, rfl, fun j hj => by omega⟩
  split at lp
  · rename_i s hsc
    obtain ⟨lp, hI, _, hI3⟩ := lp
    refine (loop_end lp).trans ?_
    rw [List.take_length] at hI
    have hall : ∀ c ∈ cols, 0 ≤ c ∧ c < (r.length : Int) := fun t hm => by
      obtain ⟨j, hj, e⟩ := List.getElem_of_mem hm
      have := hI3 j hj
      rw [List.getD_eq_getElem?_getD, List.getElem?_eq_getElem hj, Option.getD_some, e] at this
      exact this
    show l26_AccessWithin_C8 (.exit 0) (l26_AccessWithin_s8 terms cols r _ s) = _
    rw [l26_AccessWithin_a8_x0, hI]
    by_cases hr : r.all rightV = true
    · rw [cndO_eq, if_neg (by unfold value_Rights; rw [hr]; decide)]
      exact within_loop2 terms cols r _ht h1 h2 h3 hr hall
    · rw [cndO_eq, if_pos (by unfold value_Rights; simpa using hr)]
  · rename_i x hsc
    have hr : ∃ i s, x = (.ret, l26_AccessWithin_e8_ret terms cols r i s true) := by
      refine scanI_inr (P := fun x => ∃ i s, x = (.ret, l26_AccessWithin_e8_ret terms cols r i s true)) (fun a i x r' hf => ?_) cols 0 _ hsc
      unfold keyF at hf
      split at hf
      · cases hf; exact ⟨_, _, rfl⟩
      · cases hf
    obtain ⟨i, s, rfl⟩ := hr
    refine (loop_end lp).trans ?_
    rw [l26_AccessWithin_a8_ret]
theorem l26_AccessWithin_spec (terms : List Term) (cols : List Int) (r : List Val) (ht : WL .term terms) (hc : WL .int cols) (_hr : WL .val r) (h1 : szTs terms ≤ 2000000) (h2 : strTs terms) (h3 : envOK [r]) : l26_AccessWithin_fn terms cols r = some (R_l26_AccessWithin (l26_AccessWithin terms cols r)) := by
  rw [l26_AccessWithin_in]
  by_cases h60 : terms.length > 60
  · rw [cndO_eq, if_pos (decide_eq_true (by omega))]; rfl
  rw [cndO_eq, if_neg (fun e => h60 (by have := of_decide_eq_true e; omega))]
  by_cases h20 : cols.length > 20
  · rw [cndO_eq, if_pos (decide_eq_true (by omega))]; rfl
  rw [cndO_eq, if_neg (fun e => h20 (by have := of_decide_eq_true e; omega)), obO_pos (by omega)]
  have hl := within_loop1 terms cols r ht hc (by omega) h1 h2 h3
  unfold l26_AccessWithin_t1
  rw [hl]
  have sl : 0 ≤ (access_Range terms cols).2.2 ∧ (access_Range terms cols).2.2 ≤ (cols.length : Int) ∧ ((access_Range terms cols).1.key.length : Int) ≤ (access_Range terms cols).2.2 ∧ ((access_Range terms cols).2.1.key.length : Int) ≤ (access_Range terms cols).2.2 ∧ ((access_Range terms cols).2.2 > 0 → (access_Range terms cols).2.2 - 1 ≤ ((access_Range terms cols).1.key.length : Int) ∧ (access_Range terms cols).2.2 - 1 ≤ ((access_Range terms cols).2.1.key.length : Int) ∧ ((access_Range terms cols).1.is = true ∨ (access_Range terms cols).2.1.is = true)) ∧ ((access_Range terms cols).2.2 = 0 → (access_Range terms cols).1.is = false ∧ (access_Range terms cols).2.1.is = false) := span_len terms cols
  generalize access_Range terms cols = A at sl
  obtain ⟨s1, s2, s3, s4, s5, s6⟩ := sl
  have w : IntKind.i64.wrap (A.2.2 - 1) = A.2.2 - 1 := wrap_id (by omega)
  rw [w]
  simp only [cndO_eq, decide_eq_true_eq]
  rw [if_neg (by omega), if_neg (by omega), if_neg (by omega), if_neg (by omega)]
  by_cases hp : A.2.2 > 0
  · obtain ⟨t1, t2, t3⟩ := s5 hp
    have hz : (A.2.2 == 0) = false := by rw [beq_eq_false_iff_ne]; omega
    rw [if_pos hp, if_neg (by omega), if_neg (by omega), hz]
    rcases t3 with t3 | t3
    · rw [t3]; simp; rfl
    · rw [t3]; simp; rfl
  · have h0 : A.2.2 = 0 := by omega
    obtain ⟨u1, u2⟩ := s6 h0
    rw [if_neg hp, u1, u2]; simp; rfl
def F_l26_AccessWithin : FnC Un := fun args => match args with
  | [x0, x1, x2] => (dL .term x0).bind fun terms => (dL .int x1).bind fun cols => (dL .val x2).bind fun r => some ([szTs terms ≤ 2000000, strTs terms, envOK [r]], A_l26_AccessWithin (l26_AccessWithin terms cols r), O_l26_AccessWithin (l26_AccessWithin terms cols r))
  | _ => none
theorem ok_l26_AccessWithin : FnOK 3 F_l26_AccessWithin := by
  intro args ob rs os h hob
  unfold F_l26_AccessWithin at h
  split at h
  · simp only [Option.bind_eq_some_iff, Option.some.injEq, Prod.mk.injEq] at h
    obtain ⟨terms, e0, cols, e1, r, e2, rfl, rfl, rfl⟩ := h
    obtain rfl := dL_eq e0
    obtain rfl := dL_eq e1
    obtain rfl := dL_eq e2
    exact ⟨fn_contractF (M := M_l26_AccessWithin) rfl (tbl_ok (l1 := [(4, F_l26_awake), (5, F_access_Range), (6, F_value_Rights), (7, F_scalar_Truth), (8, F_r26_Within)]) (l2 := []) (l3 := []) (l4 := []) (l5 := []) ⟨ok_l26_awake, ok_access_Range, ok_value_Rights, ok_scalar_Truth, ok_r26_Within, trivial⟩ trivial trivial trivial trivial) Try.func3 (by kernel_rfl) N_l26_AccessWithin 2 [.d] (fun hwf => (l26_AccessWithin_spec terms cols r (wfArg hwf (a := .d (.v (.dat (U := Un) Ty.term terms))) (List.mem_of_getElem? (i := 0) rfl)) (wfArg hwf (a := .d (.v (.dat (U := Un) Ty.int cols))) (List.mem_of_getElem? (i := 1) rfl)) (wfArg hwf (a := .d (.v (.dat (U := Un) Ty.val r))) (List.mem_of_getElem? (i := 2) rfl)) (hob _ (List.mem_of_getElem? (i := 0) rfl)) (hob _ (List.mem_of_getElem? (i := 1) rfl)) (hob _ (List.mem_of_getElem? (i := 2) rfl)))), hasBody_of Try.func3 (by kernel_rfl) (by kernel_rfl)⟩
  · simp at h
end
end Go.Proofs.Ytjmpnpkcgkhagaa.B
