/- Part 12 of the proof: Shelf Lindexb Slike1 Svals Svbool Lscal. -/
import Derived.Shelf.Small.Strs
import Derived.Shelf.Small.Wraps
import Derived.Shelf.Strings.Search1
import Derived.Shelf.GgClosure.StringsIndexFunc
import Derived.Ground.GgwProg
import Derived.Shelf.GgClosure.StringsIndexFuncTop
import Derived.Shelf.GgClosure.StringsRunes
import Derived.Shelf.Strings.FuncGrows
import Derived.Shelf.Slices.Turned
import Derived.Ground.Names2Prog
import Derived.Shelf.Slices.SearchI
import Derived.Test.YtjmpnpkcgkhagaaProg
import Derived.MapKept
import Derived.Carry
import Derived.Test.YtjmpnpkcgkhagaaAcw11
namespace Go.Proofs
open Go.Shelf
def Try.lays106_ren : Go.Shelf.Ren := ⟨fun | 106 => 71 | 213 => 75 | 265 => 78 | n => n, fun | 9 => 9 | 3 => 3 | n => n, fun | n => n⟩
theorem Try.lays106 : Go.Proofs.Lays.n106 Try.prog Try.lays106_ren := {
  mixed := by kernel_rfl
  f106 := Try.func71.trans (congrArg some (by kernel_rfl))
  f213 := Try.func75.trans (congrArg some (by kernel_rfl))
  f265 := Try.func78.trans (congrArg some (by kernel_rfl))
  t3 := Try.underlying3
  a3 := Try.isAgg3
  z3 := Try.sizeOf3
  v3 := Try.zeroValue3
  t9 := Try.underlying9
  a9 := Try.isAgg9
  z9 := Try.sizeOf9
  v9 := Try.zeroValue9 }
open Go.RowKit in
theorem Try.strings_Compare (a b : ByteArray) (w : World) :
    Calls Try.prog 71 #[.string a, .string b] w fun e w' => e = .returned (.int .i64 (Lib.compareBytes a.data.toList b.data.toList)) ∧ w' = w := Any.strings_Compare Try.lays106 a b w
def Try.lays137_ren : Go.Shelf.Ren := ⟨fun | 137 => 74 | 217 => 77 | 266 => 79 | n => n, fun | 9 => 9 | 5 => 5 | 3 => 3 | n => n, fun | n => n⟩
theorem Try.lays137 : Go.Proofs.Lays.n137 Try.prog Try.lays137_ren := {
  mixed := by kernel_rfl
  f137 := Try.func74.trans (congrArg some (by kernel_rfl))
  f217 := Try.func77.trans (congrArg some (by kernel_rfl))
  f266 := Try.func79.trans (congrArg some (by kernel_rfl))
  t3 := Try.underlying3
  a3 := Try.isAgg3
  z3 := Try.sizeOf3
  v3 := Try.zeroValue3
  t5 := Try.underlying5
  a5 := Try.isAgg5
  z5 := Try.sizeOf5
  v5 := Try.zeroValue5
  t9 := Try.underlying9
  a9 := Try.isAgg9
  z9 := Try.sizeOf9
  v9 := Try.zeroValue9 }
open Go.RowKit in
theorem Try.strings_IndexByte (s : ByteArray) (c : Int) (w : World) :
    Calls Try.prog 74 #[.string s, .int .u8 c] w fun e w' => e = .returned (.int .i64 (Lib.indexByte s.data.toList c.toNat.toUInt8)) ∧ w' = w := Any.strings_IndexByte Try.lays137 s c w
def Try.laysGw15_ren : Go.Shelf.Ren := ⟨fun | 15 => 26 | 20 => 34 | n => n, fun | 9 => 9 | 23 => 67 | 3 => 3 | 4 => 4 | 0 => 0 | 21 => 21 | n => n, fun | n => n⟩
theorem Try.laysGw15 : Go.Proofs.LaysGw.n15 Try.prog Try.laysGw15_ren := {
  mixed := by kernel_rfl
  f15 := Try.func26.trans (congrArg some (by kernel_rfl))
  f20 := Try.func34.trans (congrArg some (by kernel_rfl))
  t0 := Try.underlying0
  a0 := Try.isAgg0
  z0 := Try.sizeOf0
  v0 := Try.zeroValue0
  i0 := by kernel_rfl
  t3 := Try.underlying3
  a3 := Try.isAgg3
  z3 := Try.sizeOf3
  v3 := Try.zeroValue3
  i3 := by kernel_rfl
  t4 := Try.underlying4
  a4 := Try.isAgg4
  z4 := Try.sizeOf4
  v4 := Try.zeroValue4
  i4 := by kernel_rfl
  t9 := Try.underlying9
  a9 := Try.isAgg9
  z9 := Try.sizeOf9
  v9 := Try.zeroValue9
  i9 := by kernel_rfl
  t21 := Try.underlying21
  a21 := Try.isAgg21
  z21 := Try.sizeOf21
  v21 := Try.zeroValue21
  i21 := by kernel_rfl
  t23 := Try.underlying67
  a23 := Try.isAgg67
  z23 := Try.sizeOf67
  v23 := Try.zeroValue67
  i23 := by kernel_rfl }
open Go.RowKit Go.Lib in
theorem Try.strings_IndexFunc (g : Nat) (lb : Array Value) (eg : ∀ args w, (callFunc g args).run Try.prog w = .ok (.enter g args) w) (p : Nat → Bool) (s : ByteArray) (w : World) (hp : PredAt Try.prog g lb encR p w) :
    Calls Try.prog 26 #[.string s, .func (.func g) #[] lb] w fun e w' => e = .returned (.int .i64 (Lib.idxFunc p true s)) ∧ Below w.heap.size w w' := Any.strings_IndexFunc Try.laysGw15 g lb eg p s w hp
def Try.lays107_ren : Go.Shelf.Ren := ⟨fun | 107 => 63 | 108 => 73 | n => n, fun | 28 => 23 | 3 => 3 | 4 => 4 | 0 => 0 | n => n, fun | n => n⟩
theorem Try.lays107 : Go.Proofs.Lays.n107 Try.prog Try.lays107_ren := {
  mixed := by kernel_rfl
  f107 := Try.func63.trans (congrArg some (by kernel_rfl))
  f108 := Try.func73.trans (congrArg some (by kernel_rfl))
  t0 := Try.underlying0
  a0 := Try.isAgg0
  z0 := Try.sizeOf0
  v0 := Try.zeroValue0
  t3 := Try.underlying3
  a3 := Try.isAgg3
  z3 := Try.sizeOf3
  v3 := Try.zeroValue3
  t4 := Try.underlying4
  a4 := Try.isAgg4
  z4 := Try.sizeOf4
  v4 := Try.zeroValue4
  t28 := Try.underlying23
  a28 := Try.isAgg23
  z28 := Try.sizeOf23
  v28 := Try.zeroValue23 }
open Go.Lib in
theorem Try.slices_Contains_int (b off n c : Nat) (zs : List Int) (x : Int) (w : World) (hz : n ≤ zs.length) (hbig : n ≤ 9223372036854775807) (hc : ∀ j, j < zs.length → w.cell? ⟨b, off + j, none⟩ = some (.int .i64 (zs.getD j 0))) :
    Calls Try.prog 63 #[.slice (some ⟨b, off, none⟩) n c, .int .i64 x] w fun e w' => e = .returned (.bool ((zs.take n).contains x)) ∧ w' = w := Any.slices_Contains_int Try.lays107 b off n c zs x w hz hbig hc
end Go.Proofs
namespace Go.Proofs.Ytjmpnpkcgkhagaa.B
open Go Go.RowKit
set_option maxRecDepth 1000000
def idxB (s : ByteArray) (c : Int) : Int := Lib.indexByte s.data.toList c.toNat.toUInt8
theorem indexByte_le : ∀ (l : List UInt8) (c : UInt8), Lib.indexByte l c ≤ l.length
  | [], _ => by simp [Lib.indexByte]
  | b :: l, c => by
    have := indexByte_le l c
    unfold Lib.indexByte
    rw [List.length_cons]
    repeat' split
    all_goals omega
theorem idxB_range (s : ByteArray) (c : Int) : -1 ≤ idxB s c ∧ idxB s c ≤ s.size := by
  unfold idxB
  have h1 := Lib.indexByte_ge s.data.toList c.toNat.toUInt8
  have h2 := indexByte_le s.data.toList c.toNat.toUInt8
  rw [Array.length_toList] at h2
  exact ⟨h1, h2⟩
def F_strings_IndexByte : FnC Un := fun args => match args with
  | [x0, x1] => (dStr x0).bind fun s => (dI .u8 x1).bind fun c => some ([], [.c (.s (.int .i64 (idxB s c)))], [])
  | _ => none
theorem ok_strings_IndexByte : FnOK 74 F_strings_IndexByte := by
  intro args ob rs os h hob
  unfold F_strings_IndexByte at h
  split at h
  · rename_i x0 x1
    simp only [Option.bind_eq_some_iff, Option.some.injEq, Prod.mk.injEq] at h
    obtain ⟨s, e0, c, e1, rfl, rfl, rfl⟩ := h
    obtain rfl := dStr_eq e0
    obtain rfl := dI_eq e1
    refine ⟨?_, hasBody_of Try.func74 (by kernel_rfl) (by kernel_rfl)⟩
    have hx := idxB_range s c
    by_cases hr : s.size ≤ 9223372036854775807
    · refine contract_scalar (oneC_i64.2 (by omega)) fun w vs St hvs => ?_
      match vs, hvs with
      | [v0, v1], ⟨h0, h1, _⟩ =>
        obtain ⟨rfl, -⟩ := drel_str h0
        obtain ⟨rfl, -⟩ := drel_int h1
        exact Try.strings_IndexByte s c w
    · intro w St vs hbd hvs
      match vs, hvs with
      | [v0, v1], ⟨h0, h1, _⟩ =>
        obtain ⟨rfl, g0⟩ := drel_str h0
        exact absurd g0 hr
  · simp at h
end Go.Proofs.Ytjmpnpkcgkhagaa.B
namespace Go.Proofs.Ytjmpnpkcgkhagaa.B
open Go Go.RowKit
set_option maxRecDepth 100000
noncomputable section
attribute [local irreducible] awp ctxK itersK iterK retQ retGQ awf ctxF loopF
def M_like_signs : Mc Un := mach (tbl [(74, F_strings_IndexByte)]) (tbl []) (tbl []) (tbl []) (tbl [])
def A_like_signs (r : List Sign) : List (A Un) := [.c (.ob 0 0)]
def O_like_signs (r : List Sign) : List (Ob Un) := [⟨0, Ty.sign, r, none, true⟩]
def R_like_signs (r : List Sign) : RF Un := (A_like_signs r, O_like_signs r)
def N_like_signs : Nat → NS := fun l => (look l [(3, { ts := bl 66 25, bs := bl 66 0, nm := [(.sl 3, 264)] })]).getD ⟨[], [], [], [], [], false⟩
def like_signs_s3 (p : ByteArray) (v0 : Int) (v1 : List Sign) : S Un := (st 66 66 265 0 [(0, at_ p), (3, ao 264), (4, ai v0)] [] [(264, some ⟨(0 : Nat), Ty.sign, v1, some (0 : Nat), true⟩)])
def like_signs_B3 : Code := sub (bodyOf Try.f64) [1, 1, 0, 1, 2, 2]
def like_signs_L3 : S Un → Option (EX Un) := loopF (N_like_signs 3) (fun s Q => awf M_like_signs N_like_signs like_signs_B3 s Q)
def like_signs_C3 : Exit → S Un → Option (RF Un) := ctxF M_like_signs N_like_signs (bodyOf Try.f64) [1, 1, 0, 1, 2] (retF M_like_signs Try.f64.results.toList [.o])
def like_signs_fn (p : ByteArray) : Option (RF Un) := awf M_like_signs N_like_signs (bodyOf Try.f64) (entry Try.f64.ntmps 1 [.d (.v (cs p))]) (retF M_like_signs Try.f64.results.toList [.o])
theorem like_signs_in (p : ByteArray) : like_signs_fn p =
 (like_signs_L3 (like_signs_s3 p (0 : Int) ([]))).bind (thenX like_signs_C3) := by kernel_rfl
def like_signs_t1 (p : ByteArray) (v0 : Int) (v1 : List Sign) : Option (EX Un) :=
 obO (0 ≤ v0 ∧ v0 < (↑p.size : Int))
  (obO ((v1.length + ([{ kind := (0 : Int), b := (↑(p.toList.getD v0.toNat 0).toNat : Int) }] : List Sign).length) * (16 : Nat) ≤ roomB)
   (like_signs_L3 (like_signs_s3 p (IntKind.i64.wrap (v0 + 1)) (v1 ++ [{ kind := (0 : Int), b := (↑(p.toList.getD v0.toNat 0).toNat : Int) }]))))
theorem like_signs_l3 (p : ByteArray) (v0 : Int) (v1 : List Sign) : like_signs_L3 (like_signs_s3 p v0 v1) =
 cndO (decide (v0 < (↑p.size : Int)))
  (obO (0 ≤ v0 ∧ v0 < (↑p.size : Int))
   (cndO ((↑(p.toList.getD v0.toNat 0).toNat : Int) == (37 : Int))
    (obO ((v1.length + ([{ kind := (2 : Int), b := (0 : Int) }] : List Sign).length) * (16 : Nat) ≤ roomB)
     (like_signs_L3 (like_signs_s3 p (IntKind.i64.wrap (v0 + 1)) (v1 ++ [{ kind := (2 : Int), b := (0 : Int) }]))))
    (obO (0 ≤ v0 ∧ v0 < (↑p.size : Int))
     (cndO ((↑(p.toList.getD v0.toNat 0).toNat : Int) == (95 : Int))
      (obO ((v1.length + ([{ kind := (1 : Int), b := (0 : Int) }] : List Sign).length) * (16 : Nat) ≤ roomB)
       (like_signs_L3 (like_signs_s3 p (IntKind.i64.wrap (v0 + 1)) (v1 ++ [{ kind := (1 : Int), b := (0 : Int) }]))))
      (obO (0 ≤ v0 ∧ v0 < (↑p.size : Int))
       (cndO ((↑(p.toList.getD v0.toNat 0).toNat : Int) == (92 : Int))
        (cndO (decide (IntKind.i64.wrap (v0 + 1) < (↑p.size : Int)))
         (obO (0 ≤ IntKind.i64.wrap (v0 + 1) ∧ IntKind.i64.wrap (v0 + 1) < (↑p.size : Int))
          (cndO (decide (idxB (ByteArray.mk #[37, 95, 92]) (↑(p.toList.getD (IntKind.i64.wrap (v0 + 1)).toNat 0).toNat : Int) ≥ (0 : Int)))
           (obO (0 ≤ IntKind.i64.wrap (v0 + 1) ∧ IntKind.i64.wrap (v0 + 1) < (↑p.size : Int))
            (obO ((v1.length + ([{ kind := (0 : Int), b := (↑(p.toList.getD (IntKind.i64.wrap (v0 + 1)).toNat 0).toNat : Int) }] : List Sign).length) * (16 : Nat) ≤ roomB)
             (like_signs_L3 (like_signs_s3 p (IntKind.i64.wrap (IntKind.i64.wrap (v0 + 1) + 1)) (v1 ++ [{ kind := (0 : Int), b := (↑(p.toList.getD (IntKind.i64.wrap (v0 + 1)).toNat 0).toNat : Int) }])))))
           (like_signs_t1 p v0 v1)))
         (like_signs_t1 p v0 v1))
        (like_signs_t1 p v0 v1)))))))
  (some (.exit 0, (like_signs_s3 p v0 v1))) := (loopF_eq (N_like_signs 3) like_signs_B3 _).trans (by kernel_rfl)
theorem like_signs_a3_x0 (p : ByteArray) (v0 : Int) (v1 : List Sign) : like_signs_C3 (.exit 0) (like_signs_s3 p v0 v1) =
 some (R_like_signs (v1)) := by kernel_rfl
def escB (d : UInt8) : Bool := decide (idxB (ByteArray.mk #[37, 95, 92]) (d.toNat : Int) ≥ 0)
def signsL : List UInt8 → List Sign
  | [] => []
  | [c] => if (c.toNat : Int) = 37 then [⟨2, 0⟩] else if (c.toNat : Int) = 95 then [⟨1, 0⟩] else [⟨0, (c.toNat : Int)⟩]
  | c :: d :: r => if (c.toNat : Int) = 37 then ⟨2, 0⟩ :: signsL (d :: r) else if (c.toNat : Int) = 95 then ⟨1, 0⟩ :: signsL (d :: r) else if (c.toNat : Int) = 92 ∧ escB d = true then ⟨0, (d.toNat : Int)⟩ :: signsL r else ⟨0, (c.toNat : Int)⟩ :: signsL (d :: r)
def like_signs (p : ByteArray) : List Sign := signsL p.toList
theorem signsL_len : ∀ (n : Nat) (l : List UInt8), l.length ≤ n → (signsL l).length ≤ l.length
  | _, [], _ => Nat.le_refl _
  | _, [c], _ => by
    simp only [signsL]
    repeat' split
    all_goals simp
  | n + 1, c :: d :: r, h => by
    simp only [List.length_cons] at h
    have h1 := signsL_len n (d :: r) (by simp only [List.length_cons]; omega)
    have h2 := signsL_len n r (by omega)
    simp only [List.length_cons] at h1
    simp only [signsL]
    repeat' split
    all_goals (simp only [List.length_cons]; omega)
  | 0, c :: d :: r, h => by simp at h
theorem signs_loop (p : ByteArray) (hp : p.size ≤ 2000000) : ∀ (n i : Nat) (o : List Sign), p.size - i ≤ n → i ≤ p.size → o.length ≤ i → like_signs_L3 (like_signs_s3 p (i : Int) o) = some (.exit 0, like_signs_s3 p (p.size : Int) (o ++ signsL (p.toList.drop i))) := by
  intro n
  have hsz := toList_size p
  induction n with
  | zero =>
    intro i o h1 h2 h3
    have e : i = p.size := by omega
    subst e
    rw [like_signs_l3, cndO_eq, if_neg (by simp), List.drop_of_length_le (by omega)]
    simp only [signsL, List.append_nil]
  | succ n ih =>
    intro i o h1 h2 h3
    rcases Nat.lt_or_ge i p.size with hi | hi
    · have hw : IntKind.i64.wrap ((i : Int) + 1) = ((i + 1 : Nat) : Int) := by rw [wrap_id (by omega)]; omega
      have hg : (p.toList.getD i 0) = p.toList[i]'(by omega) := by rw [List.getD_eq_getElem?_getD, List.getElem?_eq_getElem (by omega)]; rfl
      have hd : p.toList.drop i = p.toList[i]'(by omega) :: p.toList.drop (i + 1) := List.drop_eq_getElem_cons (by omega)
      have ih1 : ∀ x : Sign, like_signs_L3 (like_signs_s3 p ((i + 1 : Nat) : Int) (o ++ [x])) = some (.exit 0, like_signs_s3 p (p.size : Int) (o ++ x :: signsL (p.toList.drop (i + 1)))) := by
        intro x
        rw [ih (i + 1) (o ++ [x]) (by omega) (by omega) (by rw [List.length_append, List.length_singleton]; omega), List.append_assoc]; rfl
      have e1 : like_signs_t1 p (i : Int) o = some (.exit 0, like_signs_s3 p (p.size : Int) (o ++ ⟨0, ((p.toList[i]'(by omega)).toNat : Int)⟩ :: signsL (p.toList.drop (i + 1)))) := by
        unfold like_signs_t1
        rw [obO_pos (by omega), obO_pos (by unfold roomB; rw [List.length_singleton]; omega), Int.toNat_natCast, hg, hw, ih1]
      rw [like_signs_l3, e1]
      simp only [cndO_eq, decide_eq_true_eq, beq_iff_eq, Int.toNat_natCast, hg, hw]
      rw [if_pos (by omega), obO_pos (by omega), obO_pos (by unfold roomB; rw [List.length_singleton]; omega), obO_pos (by omega), obO_pos (by unfold roomB; rw [List.length_singleton]; omega), obO_pos (by omega), ih1, ih1, hd]
      generalize p.toList[i]'(by omega) = c
      rcases Nat.lt_or_ge (i + 1) p.size with hj | hj
      · have hg2 : (p.toList.getD (i + 1) 0) = p.toList[i + 1]'(by omega) := by rw [List.getD_eq_getElem?_getD, List.getElem?_eq_getElem (by omega)]; rfl
        have hd2 : p.toList.drop (i + 1) = p.toList[i + 1]'(by omega) :: p.toList.drop (i + 1 + 1) := List.drop_eq_getElem_cons (by omega)
        have hw2 : IntKind.i64.wrap (((i + 1 : Nat) : Int) + 1) = ((i + 1 + 1 : Nat) : Int) := by rw [wrap_id (by omega)]; omega
        have ih2 : ∀ x : Sign, like_signs_L3 (like_signs_s3 p ((i + 1 + 1 : Nat) : Int) (o ++ [x])) = some (.exit 0, like_signs_s3 p (p.size : Int) (o ++ x :: signsL (p.toList.drop (i + 1 + 1)))) := by
          intro x
          rw [ih (i + 1 + 1) (o ++ [x]) (by omega) (by omega) (by rw [List.length_append, List.length_singleton]; omega), List.append_assoc]; rfl
        rw [if_pos (show ((i + 1 : Nat) : Int) < (p.size : Int) by omega), obO_pos (by omega), obO_pos (by omega), obO_pos (by unfold roomB; rw [List.length_singleton]; omega), hg2, hw2, ih2, hd2]
        generalize p.toList[i + 1]'(by omega) = d
        simp only [signsL]
        by_cases c1 : (c.toNat : Int) = 37
        · rw [if_pos c1, if_pos c1]
        · rw [if_neg c1, if_neg c1]
          by_cases c2 : (c.toNat : Int) = 95
          · rw [if_pos c2, if_pos c2]
          · rw [if_neg c2, if_neg c2]
            by_cases c3 : (c.toNat : Int) = 92
            · by_cases c4 : escB d = true
              · have c4' : idxB (ByteArray.mk #[37, 95, 92]) (d.toNat : Int) ≥ 0 := by unfold escB at c4; exact of_decide_eq_true c4
                rw [if_pos c3, if_pos c4', if_pos ⟨c3, c4⟩]
              · have c4' : ¬ idxB (ByteArray.mk #[37, 95, 92]) (d.toNat : Int) ≥ 0 := fun e => c4 (by unfold escB; exact decide_eq_true e)
                rw [if_pos c3, if_neg c4', if_neg (fun e => c4 e.2)]
            · rw [if_neg c3, if_neg (fun e => c3 e.1)]
      · have hd2 : p.toList.drop (i + 1) = [] := List.drop_of_length_le (by omega)
        rw [if_neg (show ¬ ((i + 1 : Nat) : Int) < (p.size : Int) by omega), hd2]
        simp only [signsL]
        by_cases c1 : (c.toNat : Int) = 37
        · rw [if_pos c1, if_pos c1]
        · rw [if_neg c1, if_neg c1]
          by_cases c2 : (c.toNat : Int) = 95
          · rw [if_pos c2, if_pos c2]
          · rw [if_neg c2, if_neg c2]
            split <;> rfl
    · have e : i = p.size := by omega
      subst e
      rw [like_signs_l3, cndO_eq, if_neg (by simp), List.drop_of_length_le (by omega)]
      simp only [signsL, List.append_nil]
theorem like_signs_spec (p : ByteArray) (_hp : WStr p) (h : p.size ≤ 2000000) : like_signs_fn p = some (R_like_signs (like_signs p)) := by
  have lp := signs_loop p h p.size 0 [] (by omega) (by omega) (Nat.le_refl _)
  rw [List.nil_append, List.drop_zero] at lp
  rw [like_signs_in]
  refine (loop_end lp).trans ?_
  rw [like_signs_a3_x0]
  rfl
def F_like_signs : FnC Un := fun args => match args with
  | [x0] => (dStr x0).bind fun p => some ([p.size ≤ 2000000], A_like_signs (like_signs p), O_like_signs (like_signs p))
  | _ => none
theorem ok_like_signs : FnOK 64 F_like_signs := by
  intro args ob rs os h hob
  unfold F_like_signs at h
  split at h
  · simp only [Option.bind_eq_some_iff, Option.some.injEq, Prod.mk.injEq] at h
    obtain ⟨p, e0, rfl, rfl, rfl⟩ := h
    obtain rfl := dStr_eq e0
    exact ⟨fn_contractF (M := M_like_signs) rfl (tbl_ok (l1 := [(74, F_strings_IndexByte)]) (l2 := []) (l3 := []) (l4 := []) (l5 := []) ⟨ok_strings_IndexByte, trivial⟩ trivial trivial trivial trivial) Try.func64 (by kernel_rfl) N_like_signs 1 [.o] (fun hwf => (like_signs_spec p (wfArg hwf (a := .d (.v (cs p))) (List.mem_of_getElem? (i := 0) rfl)) (hob _ (List.mem_of_getElem? (i := 0) rfl)))), hasBody_of Try.func64 (by kernel_rfl) (by kernel_rfl)⟩
  · simp at h
def M_like_Match : Mc Un := mach (tbl [(64, F_like_signs)]) (tbl []) (tbl []) (tbl []) (tbl [])
def A_like_Match (r : Bool) : List (A Un) := [.c (.s (.bool r))]
def O_like_Match (_r : Bool) : List (Ob Un) := []
def R_like_Match (r : Bool) : RF Un := (A_like_Match r, O_like_Match r)
def N_like_Match : Nat → NS := fun l => (look l [(4, { ts := bl 87 1009, bs := bl 87 0, nm := [(.sl 5, 348)] }), (15, { ts := bl 87 160, bs := bl 87 0, nm := [(.sl 5, 349)] })]).getD ⟨[], [], [], [], [], false⟩
def like_Match_s4 (s : ByteArray) (p : ByteArray) (v0 : Int) (v1 : Int) (v2 : Int) (v3 : Int) : S Un := (st 87 87 350 0 [(0, at_ s), (4, ab false), (5, ao 348), (6, ai v2), (7, ai v0), (8, ai v1), (9, ai v3)] [] [(348, some ⟨(0 : Nat), Ty.sign, like_signs p, none, true⟩)])
def like_Match_s15 (p : ByteArray) (v0 : Int) : S Un := (st 87 87 350 0 [(5, ao 349), (7, ai v0)] [] [(349, some ⟨(0 : Nat), Ty.sign, like_signs p, none, true⟩)])
def like_Match_B4 : Code := sub (bodyOf Try.f48) [1, 1, 1, 1, 0, 2, 2]
def like_Match_L4 : S Un → Option (EX Un) := loopF (N_like_Match 4) (fun s Q => awf M_like_Match N_like_Match like_Match_B4 s Q)
def like_Match_B15 : Code := sub (bodyOf Try.f48) [1, 1, 1, 1, 1, 0, 2, 2]
def like_Match_L15 : S Un → Option (EX Un) := loopF (N_like_Match 15) (fun s Q => awf M_like_Match N_like_Match like_Match_B15 s Q)
def like_Match_C4 : Exit → S Un → Option (RF Un) := ctxF M_like_Match N_like_Match (bodyOf Try.f48) [1, 1, 1, 1, 0, 2] (retF M_like_Match Try.f48.results.toList [.d])
def like_Match_C15 : Exit → S Un → Option (RF Un) := ctxF M_like_Match N_like_Match (bodyOf Try.f48) [1, 1, 1, 1, 1, 0, 2] (retF M_like_Match Try.f48.results.toList [.d])
def like_Match_fn (s : ByteArray) (p : ByteArray) : Option (RF Un) := awf M_like_Match N_like_Match (bodyOf Try.f48) (entry Try.f48.ntmps 2 [.d (.v (cs s)), .d (.v (cs p))]) (retF M_like_Match Try.f48.results.toList [.d])
theorem like_Match_in (s : ByteArray) (p : ByteArray) : like_Match_fn s p =
 obO (p.size ≤ (2000000 : Nat))
  ((like_Match_L4 (like_Match_s4 s p (0 : Int) (-1 : Int) (0 : Int) (0 : Int))).bind (thenX like_Match_C4)) := by kernel_rfl
def like_Match_t1 (s : ByteArray) (p : ByteArray) (v0 : Int) (v1 : Int) (v2 : Int) (v3 : Int) : Option (EX Un) :=
 cndO (decide (v1 ≥ 0))
  (like_Match_L4 (like_Match_s4 s p (IntKind.i64.wrap (v1 + 1)) v1 (IntKind.i64.wrap (v3 + 1)) (IntKind.i64.wrap (v3 + 1))))
  (some (.ret, (like_Match_s4 s p v0 v1 v2 v3)))
def like_Match_t2 (s : ByteArray) (p : ByteArray) (v0 : Int) (v1 : Int) (v2 : Int) (v3 : Int) : Option (EX Un) :=
 cndO (decide (v0 < (↑(like_signs p).length : Int)))
  (obO (0 ≤ v0 ∧ v0 < (↑(like_signs p).length : Int))
   (cndO (((like_signs p).getD v0.toNat zeroSign).kind == 1)
    (like_Match_L4 (like_Match_s4 s p (IntKind.i64.wrap (v0 + 1)) v1 (IntKind.i64.wrap (v2 + 1)) v3))
    (obO (0 ≤ v0 ∧ v0 < (↑(like_signs p).length : Int))
     (obO (0 ≤ v2 ∧ v2 < (↑s.size : Int))
      (cndO (((like_signs p).getD v0.toNat zeroSign).b == (↑(s.toList.getD v2.toNat 0).toNat : Int))
       (like_Match_L4 (like_Match_s4 s p (IntKind.i64.wrap (v0 + 1)) v1 (IntKind.i64.wrap (v2 + 1)) v3))
       (like_Match_t1 s p v0 v1 v2 v3))))))
  (like_Match_t1 s p v0 v1 v2 v3)
theorem like_Match_l4 (s : ByteArray) (p : ByteArray) (v0 : Int) (v1 : Int) (v2 : Int) (v3 : Int) : like_Match_L4 (like_Match_s4 s p v0 v1 v2 v3) =
 cndO (decide (v2 < (↑s.size : Int)))
  (cndO (decide (v0 < (↑(like_signs p).length : Int)))
   (obO (0 ≤ v0 ∧ v0 < (↑(like_signs p).length : Int))
    (cndO (((like_signs p).getD v0.toNat zeroSign).kind == 2)
     (like_Match_L4 (like_Match_s4 s p (IntKind.i64.wrap (v0 + 1)) v0 v2 v2))
     (like_Match_t2 s p v0 v1 v2 v3)))
   (like_Match_t2 s p v0 v1 v2 v3))
  (some (.exit 0, (like_Match_s4 s p v0 v1 v2 v3))) := (loopF_eq (N_like_Match 4) like_Match_B4 _).trans (by kernel_rfl)
theorem like_Match_a4_ret (s : ByteArray) (p : ByteArray) (v0 : Int) (v1 : Int) (v2 : Int) (v3 : Int) : like_Match_C4 .ret (like_Match_s4 s p v0 v1 v2 v3) =
 some (R_like_Match (false)) := by kernel_rfl
theorem like_Match_a4_x0 (s : ByteArray) (p : ByteArray) (v0 : Int) (v1 : Int) (v2 : Int) (v3 : Int) : like_Match_C4 (.exit 0) (like_Match_s4 s p v0 v1 v2 v3) =
 (like_Match_L15 (like_Match_s15 p v0)).bind (thenX like_Match_C15) := by kernel_rfl
theorem like_Match_l15 (p : ByteArray) (v0 : Int) : like_Match_L15 (like_Match_s15 p v0) =
 cndO (decide (v0 < (↑(like_signs p).length : Int)))
  (obO (0 ≤ v0 ∧ v0 < (↑(like_signs p).length : Int))
   (cndO (((like_signs p).getD v0.toNat zeroSign).kind == 2)
    (like_Match_L15 (like_Match_s15 p (IntKind.i64.wrap (v0 + 1))))
    (some (.exit 3, (like_Match_s15 p v0)))))
  (some (.exit 3, (like_Match_s15 p v0))) := (loopF_eq (N_like_Match 15) like_Match_B15 _).trans (by kernel_rfl)
theorem like_Match_a15_x3 (p : ByteArray) (v0 : Int) : like_Match_C15 (.exit 3) (like_Match_s15 p v0) =
 some (R_like_Match (v0 == (↑(like_signs p).length : Int))) := by kernel_rfl
theorem like_tail (s p : ByteArray) (hp : (like_signs p).length ≤ 2000000) : ∀ (c k : Nat), (like_signs p).length - k = c → k ≤ (like_signs p).length → ∃ r, (like_Match_L15 (like_Match_s15 p (k : Int))).bind (thenX like_Match_C15) = some (R_like_Match r) := by
  intro c
  induction c with
  | zero =>
    intro k h1 h2
    have e : like_Match_L15 (like_Match_s15 p (k : Int)) = some (.exit 3, like_Match_s15 p (k : Int)) := by rw [like_Match_l15, cndO_eq, if_neg (by simp; omega)]
    rw [loop_end e, like_Match_a15_x3]
    exact ⟨_, rfl⟩
  | succ c ih =>
    intro k h1 h2
    by_cases hk : ((like_signs p).getD k zeroSign).kind = 2
    · have e : like_Match_L15 (like_Match_s15 p (k : Int)) = like_Match_L15 (like_Match_s15 p ((k + 1 : Nat) : Int)) := by
        rw [like_Match_l15, cndO_eq, if_pos (by simp; omega), obO_pos (by omega), Int.toNat_natCast, cndO_eq, if_pos (by simpa using hk), show IntKind.i64.wrap ((k : Int) + 1) = ((k + 1 : Nat) : Int) by rw [wrap_id (by omega)]; omega]
      rw [e]
      exact ih (k + 1) (by omega) (by omega)
    · have e : like_Match_L15 (like_Match_s15 p (k : Int)) = some (.exit 3, like_Match_s15 p (k : Int)) := by
        rw [like_Match_l15, cndO_eq, if_pos (by simp; omega), obO_pos (by omega), Int.toNat_natCast, cndO_eq, if_neg (by simpa using hk)]
      rw [loop_end e, like_Match_a15_x3]
      exact ⟨_, rfl⟩
theorem like_main (s p : ByteArray) (hs : s.size ≤ 2000000) (hp : (like_signs p).length ≤ 2000000) : ∀ (a b c k at_ from_ : Nat) (star : Int), s.size - from_ = a → s.size - at_ = b → (like_signs p).length - k = c →
    at_ ≤ s.size → from_ ≤ at_ → k ≤ (like_signs p).length → star < ((like_signs p).length : Int) → -1 ≤ star →
    ∃ r, (like_Match_L4 (like_Match_s4 s p (k : Int) star (at_ : Int) (from_ : Int))).bind (thenX like_Match_C4) = some (R_like_Match r) := by
  intro a
  induction a using Nat.strongRecOn with
  | ind a iha =>
    intro b
    induction b using Nat.strongRecOn with
    | ind b ihb =>
      intro c
      induction c using Nat.strongRecOn with
      | ind c ihc =>
        intro k at_ from_ star h1 h2 h3 h4 h5 h6 h7 h8
        rcases Nat.lt_or_ge at_ s.size with ha | ha
        · have wk : k < (like_signs p).length → IntKind.i64.wrap ((k : Int) + 1) = ((k + 1 : Nat) : Int) := fun h => by rw [wrap_id (by omega)]; omega
          have wa : IntKind.i64.wrap ((at_ : Int) + 1) = ((at_ + 1 : Nat) : Int) := by rw [wrap_id (by omega)]; omega
          have wf : IntKind.i64.wrap ((from_ : Int) + 1) = ((from_ + 1 : Nat) : Int) := by rw [wrap_id (by omega)]; omega
          have t1 : ∃ r, (like_Match_t1 s p (k : Int) star (at_ : Int) (from_ : Int)).bind (thenX like_Match_C4) = some (R_like_Match r) := by
            unfold like_Match_t1
            by_cases hst : star ≥ 0
            · obtain ⟨q, rfl⟩ := Int.eq_ofNat_of_zero_le hst
              rw [cndO_eq, if_pos (decide_eq_true hst), wf, show IntKind.i64.wrap ((q : Int) + 1) = ((q + 1 : Nat) : Int) by rw [wrap_id (by omega)]; omega]
              exact iha (s.size - (from_ + 1)) (by omega) _ _ (q + 1) (from_ + 1) (from_ + 1) (q : Int) rfl rfl rfl (by omega) (by omega) (by omega) h7 h8
            · have e : cndO (decide (star ≥ 0)) (like_Match_L4 (like_Match_s4 s p (IntKind.i64.wrap (star + 1)) star (IntKind.i64.wrap ((from_ : Int) + 1)) (IntKind.i64.wrap ((from_ : Int) + 1)))) (some (.ret, (like_Match_s4 s p (k : Int) star (at_ : Int) (from_ : Int)))) = some (.ret, (like_Match_s4 s p (k : Int) star (at_ : Int) (from_ : Int))) := by rw [cndO_eq, if_neg (by simpa using hst)]
              rw [loop_end e, like_Match_a4_ret]
              exact ⟨_, rfl⟩
          have t2 : ∃ r, (like_Match_t2 s p (k : Int) star (at_ : Int) (from_ : Int)).bind (thenX like_Match_C4) = some (R_like_Match r) := by
            unfold like_Match_t2
            rcases Nat.lt_or_ge k (like_signs p).length with hk | hk
            · have ihm : ∃ r, (like_Match_L4 (like_Match_s4 s p ((k + 1 : Nat) : Int) star ((at_ + 1 : Nat) : Int) (from_ : Int))).bind (thenX like_Match_C4) = some (R_like_Match r) :=
                ihb (s.size - (at_ + 1)) (by omega) _ (k + 1) (at_ + 1) from_ star h1 rfl rfl (by omega) (by omega) (by omega) h7 h8
              rw [cndO_eq, if_pos (by simp; omega), obO_pos (by omega), obO_pos (by omega), obO_pos (by omega), wk hk, wa, cndO_eq, cndO_eq]
              split
              · exact ihm
              · split
                · exact ihm
                · exact t1
            · rw [cndO_eq, if_neg (by simp; omega)]
              exact t1
          rw [like_Match_l4, cndO_eq, if_pos (by simp; omega), cndO_eq]
          rcases Nat.lt_or_ge k (like_signs p).length with hk | hk
          · rw [if_pos (by simp; omega), obO_pos (by omega), cndO_eq]
            split
            · rw [wk hk]
              rcases Nat.lt_or_ge (s.size - at_) a with hlt | hge
              · exact iha (s.size - at_) hlt _ _ (k + 1) at_ at_ (k : Int) rfl rfl rfl (by omega) (by omega) (by omega) (by omega) (by omega)
              · exact ihc ((like_signs p).length - (k + 1)) (by omega) (k + 1) at_ at_ (k : Int) (by omega) h2 rfl (by omega) (by omega) (by omega) (by omega) (by omega)
            · exact t2
          · rw [if_neg (by simp; omega)]
            exact t2
        · have e : like_Match_L4 (like_Match_s4 s p (k : Int) star (at_ : Int) (from_ : Int)) = some (.exit 0, like_Match_s4 s p (k : Int) star (at_ : Int) (from_ : Int)) := by rw [like_Match_l4, cndO_eq, if_neg (by simp; omega)]
          rw [loop_end e, like_Match_a4_x0]
          exact like_tail s p hp _ k rfl h6
theorem like_total (s p : ByteArray) (hs : s.size ≤ 2000000) (hp : p.size ≤ 2000000) : ∃ r, like_Match_fn s p = some (R_like_Match r) := by
  have hl : (like_signs p).length ≤ 2000000 := by
    have := signsL_len _ p.toList (Nat.le_refl _)
    rw [toList_size] at this
    unfold like_signs; omega
  rw [like_Match_in, obO_pos hp]
  exact like_main s p hs hl _ _ _ 0 0 0 (-1) rfl rfl rfl (by omega) (by omega) (by omega) (by omega) (by omega)
noncomputable def like_Match (s p : ByteArray) : Bool := @dite _ (∃ r, like_Match_fn s p = some (R_like_Match r)) (Classical.propDecidable _) (fun h => h.choose) (fun _ => false)
theorem like_Match_spec (s p : ByteArray) (_hs : WStr s) (_hp : WStr p) (h1 : s.size ≤ 2000000) (h2 : p.size ≤ 2000000) : like_Match_fn s p = some (R_like_Match (like_Match s p)) := by
  have h := like_total s p h1 h2
  unfold like_Match
  rw [dif_pos h]
  exact h.choose_spec
def F_like_Match : FnC Un := fun args => match args with
  | [x0, x1] => (dStr x0).bind fun s => (dStr x1).bind fun p => some ([s.size ≤ 2000000, p.size ≤ 2000000], A_like_Match (like_Match s p), O_like_Match (like_Match s p))
  | _ => none
theorem ok_like_Match : FnOK 48 F_like_Match := by
  intro args ob rs os h hob
  unfold F_like_Match at h
  split at h
  · simp only [Option.bind_eq_some_iff, Option.some.injEq, Prod.mk.injEq] at h
    obtain ⟨s, e0, p, e1, rfl, rfl, rfl⟩ := h
    obtain rfl := dStr_eq e0
    obtain rfl := dStr_eq e1
    exact ⟨fn_contractF (M := M_like_Match) rfl (tbl_ok (l1 := [(64, F_like_signs)]) (l2 := []) (l3 := []) (l4 := []) (l5 := []) ⟨ok_like_signs, trivial⟩ trivial trivial trivial trivial) Try.func48 (by kernel_rfl) N_like_Match 2 [.d] (fun hwf => (like_Match_spec s p (wfArg hwf (a := .d (.v (cs s))) (List.mem_of_getElem? (i := 0) rfl)) (wfArg hwf (a := .d (.v (cs p))) (List.mem_of_getElem? (i := 1) rfl)) (hob _ (List.mem_of_getElem? (i := 0) rfl)) (hob _ (List.mem_of_getElem? (i := 1) rfl)))), hasBody_of Try.func48 (by kernel_rfl) (by kernel_rfl)⟩
  · simp at h
end
end Go.Proofs.Ytjmpnpkcgkhagaa.B
namespace Go.Proofs.Ytjmpnpkcgkhagaa.B
open Go Go.RowKit
set_option maxRecDepth 100000
noncomputable section
attribute [local irreducible] awp ctxK itersK iterK retQ retGQ awf ctxF loopF
def M_idxf_vals : Mc Un := mach (tbl []) (tbl []) (tbl []) (tbl []) (tbl [])
def A_idxf_vals (r : Int) : List (A Un) := [.c (.s (.int .i64 r))]
def O_idxf_vals (_r : Int) : List (Ob Un) := []
def R_idxf_vals (r : Int) : RF Un := (A_idxf_vals r, O_idxf_vals r)
def N_idxf_vals : Nat → NS := fun l => (look l [(2, { ts := bl 19 403, bs := bl 19 0, nm := [] })]).getD ⟨[], [], [], [], [], false⟩
def idxf_vals_s2 (s : List Val) (f_o : Val → Prop) (f : Val → Bool) (v0 : Int) : S Un := (st 19 19 76 0 [(0, al .val s), (1, AV.one (A.c (C.fv (fvo_S_val_to_b f_o f)))), (4, ai (0 : Int)), (7, ai (↑s.length : Int)), (8, ai v0)] [] [])
def idxf_vals_e2_ret (s : List Val) (f_o : Val → Prop) (f : Val → Bool) (v0 : Int) (v1 : Int) : S Un := (st 19 19 76 0 [(0, al .val s), (1, AV.one (A.c (C.fv (fvo_S_val_to_b f_o f)))), (4, ai v1), (7, ai (↑s.length : Int)), (8, ai v0)] [] [])
def idxf_vals_B2 : Code := sub (bodyOf Try.f66) [1, 0, 1, 2, 2]
def idxf_vals_L2 : S Un → Option (EX Un) := loopF (N_idxf_vals 2) (fun s Q => awf M_idxf_vals N_idxf_vals idxf_vals_B2 s Q)
def idxf_vals_C2 : Exit → S Un → Option (RF Un) := ctxF M_idxf_vals N_idxf_vals (bodyOf Try.f66) [1, 0, 1, 2] (retF M_idxf_vals Try.f66.results.toList [.d])
def idxf_vals_fn (s : List Val) (f_o : Val → Prop) (f : Val → Bool) : Option (RF Un) := awf M_idxf_vals N_idxf_vals (bodyOf Try.f66) (entry Try.f66.ntmps 0 [.d (.v (.dat (U := Un) Ty.val s)), .fn (fvo_S_val_to_b f_o f)]) (retF M_idxf_vals Try.f66.results.toList [.d])
theorem idxf_vals_in (s : List Val) (f_o : Val → Prop) (f : Val → Bool) : idxf_vals_fn s f_o f =
 (idxf_vals_L2 (idxf_vals_s2 s f_o f (0 : Int))).bind (thenX idxf_vals_C2) := by kernel_rfl
theorem idxf_vals_l2 (s : List Val) (f_o : Val → Prop) (f : Val → Bool) (v0 : Int) : idxf_vals_L2 (idxf_vals_s2 s f_o f v0) =
 cndO (decide (v0 < (↑s.length : Int)))
  (obO (0 ≤ v0 ∧ v0 < (↑s.length : Int))
   (obO (f_o (s.getD v0.toNat zeroVal))
    (cndO (f (s.getD v0.toNat zeroVal))
     (some (.ret, (idxf_vals_e2_ret s f_o f v0 v0)))
     (idxf_vals_L2 (idxf_vals_s2 s f_o f (IntKind.i64.wrap (v0 + 1)))))))
  (some (.exit 0, (idxf_vals_s2 s f_o f v0))) := (loopF_eq (N_idxf_vals 2) idxf_vals_B2 _).trans (by kernel_rfl)
theorem idxf_vals_a2_ret (s : List Val) (f_o : Val → Prop) (f : Val → Bool) (v0 : Int) (v1 : Int) : idxf_vals_C2 .ret (idxf_vals_e2_ret s f_o f v0 v1) =
 some (R_idxf_vals (v1)) := by kernel_rfl
theorem idxf_vals_a2_x0 (s : List Val) (f_o : Val → Prop) (f : Val → Bool) (v0 : Int) : idxf_vals_C2 (.exit 0) (idxf_vals_s2 s f_o f v0) =
 some (R_idxf_vals ((-1 : Int))) := by kernel_rfl
def allO_vals (o : Val → Prop) (s : List Val) : Prop := ∀ x ∈ s, o x
def idxf_vals (s : List Val) (_o : Val → Prop) (f : Val → Bool) : Int := match s.findIdx? f with | some i => (i : Int) | none => -1
theorem idxf_vals_nonneg (s : List Val) (o : Val → Prop) (f : Val → Bool) : 0 ≤ idxf_vals s o f ↔ s.any f = true := by
  unfold idxf_vals
  cases h : s.findIdx? f with
  | none =>
    have := List.findIdx?_eq_none_iff.1 h
    simp only [List.any_eq_true]
    constructor
    · intro h1; exact absurd h1 (by decide)
    · rintro ⟨x, hx, hf⟩; rw [this x hx] at hf; simp at hf
  | some i =>
    obtain ⟨h1, h2, _⟩ := List.findIdx?_eq_some_iff_getElem.1 h
    simp only [List.any_eq_true]
    exact ⟨fun _ => ⟨s[i], List.getElem_mem h1, h2⟩, fun _ => by omega⟩
theorem idxf_vals_spec (s : List Val) (o : Val → Prop) (f : Val → Bool) (hs : WL .val s) (ho : allO_vals o s) : idxf_vals_fn s o f = some (R_idxf_vals (idxf_vals s o f)) := by
  have key : ∀ (r : List Val) (i : Nat), s.drop i = r → i ≤ s.length → (idxf_vals_L2 (idxf_vals_s2 s o f i)).bind (thenX idxf_vals_C2) = some (R_idxf_vals (match r.findIdx? f with | some k => ((i + k : Nat) : Int) | none => -1)) := by
    intro r
    induction r with
    | nil =>
      intro i hr hi
      have : s.length ≤ i := by rw [← List.drop_eq_nil_iff]; exact hr
      have e : idxf_vals_L2 (idxf_vals_s2 s o f i) = some (.exit 0, idxf_vals_s2 s o f i) := by rw [idxf_vals_l2, cndO_eq, if_neg (by simp; omega)]
      rw [loop_end e, idxf_vals_a2_x0]; rfl
    | cons x r ih =>
      intro i hr hi
      obtain ⟨a1, a2, a3, hm⟩ := drop_cons hr
      have hx : s.getD i zeroVal = x := a2 zeroVal
      by_cases hf : f x = true
      · have e : idxf_vals_L2 (idxf_vals_s2 s o f i) = some (.ret, idxf_vals_e2_ret s o f i i) := by
          rw [idxf_vals_l2, cndO_eq, if_pos (by simp; omega), obO_pos (by omega), Int.toNat_natCast, hx, obO_pos (ho x hm), cndO_eq, if_pos hf]
        rw [loop_end e, idxf_vals_a2_ret]
        simp [List.findIdx?_cons, hf]
      · have e : idxf_vals_L2 (idxf_vals_s2 s o f i) = idxf_vals_L2 (idxf_vals_s2 s o f ((i + 1 : Nat) : Int)) := by
          rw [idxf_vals_l2, cndO_eq, if_pos (by simp; omega), obO_pos (by omega), Int.toNat_natCast, hx, obO_pos (ho x hm), cndO_eq, if_neg hf, wrap_next a1 hs.len]
        rw [e, ih (i + 1) a3 (by omega)]
        congr 2
        simp only [List.findIdx?_cons, hf]
        cases r.findIdx? f with
        | none => rfl
        | some k => simp; omega
  rw [idxf_vals_in]
  have := key s 0 rfl (Nat.zero_le _)
  refine Eq.trans this ?_
  unfold idxf_vals
  cases s.findIdx? f <;> simp
def F_idxf_vals : FnC Un := fun args => match args with
  | [x0, x1] => (dL .val x0).bind fun s => (dF x1).bind fun f => some ([f = (fvo_S_val_to_b (po_S_val_to_b f) (pf_S_val_to_b f)), allO_vals (po_S_val_to_b f) s], A_idxf_vals (idxf_vals s (po_S_val_to_b f) (pf_S_val_to_b f)), O_idxf_vals (idxf_vals s (po_S_val_to_b f) (pf_S_val_to_b f)))
  | _ => none
theorem ok_idxf_vals : FnOK 66 F_idxf_vals := by
  intro args ob rs os h hob
  unfold F_idxf_vals at h
  split at h
  · simp only [Option.bind_eq_some_iff, Option.some.injEq, Prod.mk.injEq] at h
    obtain ⟨s, e0, f, e1, rfl, rfl, rfl⟩ := h
    obtain rfl := dL_eq e0
    obtain rfl := dF_eq e1
    have hfv0 := hob _ (List.mem_of_getElem? (i := 0) rfl)
    generalize pf_S_val_to_b f = pp0 at *
    generalize po_S_val_to_b f = qq0 at *
    subst hfv0
    exact ⟨fn_contractF (M := M_idxf_vals) rfl (tbl_ok (l1 := []) (l2 := []) (l3 := []) (l4 := []) (l5 := []) trivial trivial trivial trivial trivial) Try.func66 (by kernel_rfl) N_idxf_vals 0 [.d] (fun hwf => (idxf_vals_spec s qq0 pp0 (wfArg hwf (a := .d (.v (.dat (U := Un) Ty.val s))) (List.mem_of_getElem? (i := 0) rfl)) (hob _ (List.mem_of_getElem? (i := 1) rfl)))), hasBody_of Try.func66 (by kernel_rfl) (by kernel_rfl)⟩
  · simp at h
def M_conf_vals : Mc Un := mach (tbl [(66, F_idxf_vals)]) (tbl []) (tbl []) (tbl []) (tbl [])
def A_conf_vals (r : Bool) : List (A Un) := [.c (.s (.bool r))]
def O_conf_vals (_r : Bool) : List (Ob Un) := []
def R_conf_vals (r : Bool) : RF Un := (A_conf_vals r, O_conf_vals r)
def N_conf_vals : Nat → NS := fun l => (look l []).getD ⟨[], [], [], [], [], false⟩
def conf_vals_fn (s : List Val) (f_o : Val → Prop) (f : Val → Bool) : Option (RF Un) := awf M_conf_vals N_conf_vals (bodyOf Try.f54) (entry Try.f54.ntmps 0 [.d (.v (.dat (U := Un) Ty.val s)), .fn (fvo_S_val_to_b f_o f)]) (retF M_conf_vals Try.f54.results.toList [.d])
theorem conf_vals_in (s : List Val) (f_o : Val → Prop) (f : Val → Bool) : conf_vals_fn s f_o f =
 obO (fvo_S_val_to_b f_o f = fvo_S_val_to_b (po_S_val_to_b (fvo_S_val_to_b f_o f)) (pf_S_val_to_b (fvo_S_val_to_b f_o f)))
  (obO (allO_vals (po_S_val_to_b (fvo_S_val_to_b f_o f)) s)
   (some (R_conf_vals (decide (idxf_vals s (po_S_val_to_b (fvo_S_val_to_b f_o f)) (pf_S_val_to_b (fvo_S_val_to_b f_o f)) ≥ 0))))) := by kernel_rfl
def conf_vals (s : List Val) (_o : Val → Prop) (f : Val → Bool) : Bool := s.any f
theorem conf_vals_spec (s : List Val) (o : Val → Prop) (f : Val → Bool) (_hs : WL .val s) (ho : allO_vals o s) : conf_vals_fn s o f = some (R_conf_vals (conf_vals s o f)) := by
  rw [conf_vals_in]
  simp only [pofvo_S_val_to_b, pffvo_S_val_to_b]
  rw [obO_pos trivial, obO_pos ho]
  unfold conf_vals
  congr 2
  have := idxf_vals_nonneg s o f
  cases h : s.any f with
  | true => simp; exact this.2 h
  | false =>
    have : ¬ 0 ≤ idxf_vals s o f := fun e => by rw [this.1 e] at h; simp at h
    simpa using this
def F_conf_vals : FnC Un := fun args => match args with
  | [x0, x1] => (dL .val x0).bind fun s => (dF x1).bind fun f => some ([f = (fvo_S_val_to_b (po_S_val_to_b f) (pf_S_val_to_b f)), allO_vals (po_S_val_to_b f) s], A_conf_vals (conf_vals s (po_S_val_to_b f) (pf_S_val_to_b f)), O_conf_vals (conf_vals s (po_S_val_to_b f) (pf_S_val_to_b f)))
  | _ => none
theorem ok_conf_vals : FnOK 54 F_conf_vals := by
  intro args ob rs os h hob
  unfold F_conf_vals at h
  split at h
  · simp only [Option.bind_eq_some_iff, Option.some.injEq, Prod.mk.injEq] at h
    obtain ⟨s, e0, f, e1, rfl, rfl, rfl⟩ := h
    obtain rfl := dL_eq e0
    obtain rfl := dF_eq e1
    have hfv0 := hob _ (List.mem_of_getElem? (i := 0) rfl)
    generalize pf_S_val_to_b f = pp0 at *
    generalize po_S_val_to_b f = qq0 at *
    subst hfv0
    exact ⟨fn_contractF (M := M_conf_vals) rfl (tbl_ok (l1 := [(66, F_idxf_vals)]) (l2 := []) (l3 := []) (l4 := []) (l5 := []) ⟨ok_idxf_vals, trivial⟩ trivial trivial trivial trivial) Try.func54 (by kernel_rfl) N_conf_vals 0 [.d] (fun hwf => (conf_vals_spec s qq0 pp0 (wfArg hwf (a := .d (.v (.dat (U := Un) Ty.val s))) (List.mem_of_getElem? (i := 0) rfl)) (hob _ (List.mem_of_getElem? (i := 1) rfl)))), hasBody_of Try.func54 (by kernel_rfl) (by kernel_rfl)⟩
  · simp at h
end
end Go.Proofs.Ytjmpnpkcgkhagaa.B
namespace Go.Proofs.Ytjmpnpkcgkhagaa.B
open Go Go.RowKit
set_option maxRecDepth 100000
noncomputable section
attribute [local irreducible] awp ctxK itersK iterK retQ retGQ awf ctxF loopF
def M_value_Bool : Mc Un := mach (tbl []) (tbl []) (tbl []) (tbl []) (tbl [])
def A_value_Bool (r : Val) : List (A Un) := [.agg (encC Ty.val r)]
def O_value_Bool (_r : Val) : List (Ob Un) := []
def R_value_Bool (r : Val) : RF Un := (A_value_Bool r, O_value_Bool r)
def N_value_Bool : Nat → NS := fun l => (look l []).getD ⟨[], [], [], [], [], false⟩
def value_Bool_fn (b : Bool) : Option (RF Un) := awf M_value_Bool N_value_Bool (bodyOf Try.f41) (entry Try.f41.ntmps 0 [.d (.v (cb b))]) (retF M_value_Bool Try.f41.results.toList [.d])
theorem value_Bool_in (b : Bool) : value_Bool_fn b =
 cndO (b)
  (some (R_value_Bool ({ kind := (1 : Int), n := (1 : Int), s := (ByteArray.mk #[]) })))
  (some (R_value_Bool ({ kind := (1 : Int), n := (0 : Int), s := (ByteArray.mk #[]) }))) := by kernel_rfl
def value_Bool (b : Bool) : Val :=
  if (b) = true then
   ({ kind := (1 : Int), n := (1 : Int), s := (ByteArray.mk #[]) })
  else
   ({ kind := (1 : Int), n := (0 : Int), s := (ByteArray.mk #[]) })
theorem value_Bool_eq (b : Bool) : value_Bool_fn b = some (R_value_Bool (value_Bool b)) := by rw [value_Bool_in]; unfold value_Bool; simp only [cndO_eq]; repeat (first | rfl | split)
def F_value_Bool : FnC Un := fun args => match args with
  | [x0] => (dB x0).bind fun b => some ([], A_value_Bool (value_Bool b), O_value_Bool (value_Bool b))
  | _ => none
theorem ok_value_Bool : FnOK 41 F_value_Bool := by
  intro args ob rs os h hob
  unfold F_value_Bool at h
  split at h
  · simp only [Option.bind_eq_some_iff, Option.some.injEq, Prod.mk.injEq] at h
    obtain ⟨b, e0, rfl, rfl, rfl⟩ := h
    obtain rfl := dB_eq e0
    exact ⟨fn_contractF (M := M_value_Bool) rfl (tbl_ok (l1 := []) (l2 := []) (l3 := []) (l4 := []) (l5 := []) trivial trivial trivial trivial trivial) Try.func41 (by kernel_rfl) N_value_Bool 0 [.d] (fun hwf => (value_Bool_eq b)), hasBody_of Try.func41 (by kernel_rfl) (by kernel_rfl)⟩
  · simp at h
def boolV (b : Bool) : Val := ⟨1, if b = true then 1 else 0, ⟨#[]⟩⟩
@[simp] theorem value_Bool_spec (b : Bool) : value_Bool b = boolV b := by unfold value_Bool boolV; cases b <;> rfl
end
end Go.Proofs.Ytjmpnpkcgkhagaa.B
namespace Go.Proofs.Ytjmpnpkcgkhagaa.B
open Go Go.RowKit
set_option maxRecDepth 1000000
def twoN (op a b : Int) : Int × Bool := if op = 5 then num_Add a b else if op = 6 then num_Sub a b else if op = 7 then num_Mul a b else if op = 8 then num_Div a b else num_Mod a b
def twoF (op : Int) : FV Un := fun args => match args with
  | [x0, x1] => (dI .i64 (.d x0)).bind fun a => (dI .i64 (.d x1)).bind fun b => some ([], [.v (.s (.int .i64 (twoN op a b).1)), .v (.s (.bool (twoN op a b).2))])
  | _ => none
def F_scalar_two : FnC Un := fun args => match args with
  | [x0] => (dI .i64 x0).bind fun op => some ([5 ≤ op ∧ op ≤ 9], [.c (.fv (twoF op))], [])
  | _ => none
def soB (op c : Int) : Bool := if op = 11 then decide (c = 0) else if op = 12 then decide (c = -1 ∨ c = 1) else if op = 13 then decide (c = -1) else if op = 14 then decide (c = -1 ∨ c = 0) else if op = 15 then decide (c = 1) else decide (c = 0 ∨ c = 1)
def cmpO (op : Int) (a b : Val) : Val := if (cmpV a b).2 = true then boolV (soB op (cmpV a b).1) else zeroVal
def F_scalar_compared : FnC Un := fun args => match args with
  | [x0, x1, x2] => (dI .i64 x0).bind fun op => (dS .val x1).bind fun a => (dS .val x2).bind fun b => some ([11 ≤ op ∧ op ≤ 16], [.agg (encC Ty.val (cmpO op a b))], [])
  | _ => none
def turnB (f b : Int) (c : UInt8) : UInt8 := if (c.toNat : Int) ≥ f ∧ (c.toNat : Int) < IntKind.u8.wrap (f + 26) then UInt8.ofNat (IntKind.u8.wrap (IntKind.i64.wrap ((c.toNat : Int) + b))).toNat else c
def turnS (s : ByteArray) (f b : Int) : ByteArray := ⟨(s.toList.map (turnB f b)).toArray⟩
theorem turnS_size (s : ByteArray) (f b : Int) : (turnS s f b).size = s.size := by
  unfold turnS
  show (s.toList.map (turnB f b)).toArray.size = s.size
  rw [List.size_toArray, List.length_map, toList_size]
def F_scalar_turned : FnC Un := fun args => match args with
  | [x0, x1, x2] => (dStr x0).bind fun s => (dI .u8 x1).bind fun f => (dI .i64 x2).bind fun b => some ([s.size ≤ 2000000], [.c (.s (.string (turnS s f b)))], [])
  | _ => none
theorem fun_rel {f : FuncId} {φ : FV Un} (h : FvOK f φ) {St : Nat → Nat → Prop} {w : World} : FunRel Try.prog En St w (.func (.func f) #[] #[]) φ := by
  refine ⟨f, #[], rfl, h.1, fun St' w' hk hb args ob rs hφ hob vs hvs => ?_⟩
  have hc := h.2 args ob rs hφ hob w' St' vs hb (All2.map_right D.d (fun _ _ h => h) hvs)
  rw [Array.append_empty]; exact hc
theorem updM {mt et : TypeId} (hm : Try.prog.underlying mt = some (.map 3 et)) (w : World) (es : Array MapEntry) (c : Nat) (k : Int) (v : Value) (hn : Instr.findNow (.int .i64) (.int .i64 k) es.toList 0 = some none) :
    (Instr.mapUpdate mt (.map (some w.heap.size)) (.int .i64 k) v).run Try.prog (w.alloc (.map es c)) = .ok () (w.alloc (.map (es.push { key := .int .i64 k, val := v, born := c }) (c + 1))) := by
  have hd : Try.prog.underlying 3 = some (.int .i64) := by kernel_rfl
  have hb : (w.alloc (.map es c)).heap[w.heap.size]? = some (.map es c) := by unfold World.alloc; simp
  have hk : MapKept.IsKey (.int .i64) (.int .i64 k) := by simp [MapKept.IsKey]
  simp [Instr.mapUpdate, run_underlying hm, MapKept.run_getObj_map hb, MapKept.run_checkKey hd hk, MapKept.run_findKey hd hn, MapKept.run_setObj_map _ hb, Result.andThen]
  unfold World.alloc
  simp only
  congr 1
  apply Array.ext'
  simp [Array.toList_setIfInBounds]
theorem lookM {mt et : TypeId} (hm : Try.prog.underlying mt = some (.map 3 et)) (w : World) (es : Array MapEntry) (c : Nat) (k : Int) (i : Nat) (v : Value) (hn : Instr.findNow (.int .i64) (.int .i64 k) es.toList 0 = some (some (i, v))) :
    (Instr.lookup mt (.map (some w.heap.size)) (.int .i64 k) false).run Try.prog (w.alloc (.map es c)) = .ok v (w.alloc (.map es c)) := by
  have hd : Try.prog.underlying 3 = some (.int .i64) := by kernel_rfl
  have hb : (w.alloc (.map es c)).heap[w.heap.size]? = some (.map es c) := by unfold World.alloc; simp
  have hk : MapKept.IsKey (.int .i64) (.int .i64 k) := by simp [MapKept.IsKey]
  simp [Instr.lookup, run_underlying hm, MapKept.run_getObj_map hb, MapKept.run_checkKey hd hk, MapKept.run_findKey hd hn, Result.andThen]
def twoE : List MapEntry := [⟨.int .i64 5, .func (.func 58) #[] #[], 0⟩, ⟨.int .i64 6, .func (.func 56) #[] #[], 1⟩, ⟨.int .i64 7, .func (.func 59) #[] #[], 2⟩, ⟨.int .i64 8, .func (.func 60) #[] #[], 3⟩, ⟨.int .i64 9, .func (.func 61) #[] #[], 4⟩]
theorem two_walk (op : Int) (i : Nat) (v : Value) (hn : Instr.findNow (.int .i64) (.int .i64 op) twoE 0 = some (some (i, v))) (w : World) : Calls Try.prog 42 #[.int .i64 op] w fun e w' => e = .returned v ∧ Ext w w' := by
  have mixed : Try.prog.follows .mixedOrders = true := by kernel_rfl
  have hmm := @run_makeMap Try.prog
  have hm : Try.prog.underlying 94 = some (.map 3 83) := by kernel_rfl
  have u1 := updM hm w #[] 0 5 (.func (.func 58) #[] #[]) rfl
  have u2 := updM hm w #[⟨.int .i64 5, .func (.func 58) #[] #[], 0⟩] 1 6 (.func (.func 56) #[] #[]) rfl
  have u3 := updM hm w #[⟨.int .i64 5, .func (.func 58) #[] #[], 0⟩, ⟨.int .i64 6, .func (.func 56) #[] #[], 1⟩] 2 7 (.func (.func 59) #[] #[]) rfl
  have u4 := updM hm w #[⟨.int .i64 5, .func (.func 58) #[] #[], 0⟩, ⟨.int .i64 6, .func (.func 56) #[] #[], 1⟩, ⟨.int .i64 7, .func (.func 59) #[] #[], 2⟩] 3 8 (.func (.func 60) #[] #[]) rfl
  have u5 := updM hm w #[⟨.int .i64 5, .func (.func 58) #[] #[], 0⟩, ⟨.int .i64 6, .func (.func 56) #[] #[], 1⟩, ⟨.int .i64 7, .func (.func 59) #[] #[], 2⟩, ⟨.int .i64 8, .func (.func 60) #[] #[], 3⟩] 4 9 (.func (.func 61) #[] #[]) rfl
  have lk := lookM hm w #[⟨.int .i64 5, .func (.func 58) #[] #[], 0⟩, ⟨.int .i64 6, .func (.func 56) #[] #[], 1⟩, ⟨.int .i64 7, .func (.func 59) #[] #[], 2⟩, ⟨.int .i64 8, .func (.func 60) #[] #[], 3⟩, ⟨.int .i64 9, .func (.func 61) #[] #[], 4⟩] 5 op i v hn
  go_enter Try.func42, Try.ntmps42
  go_wp2
  go_ret
  exact ⟨rfl, (Ext.refl w).alloc _⟩
theorem fvok_two {f : FuncId} {F : FnC Un} (g : Int → Int → Int × Bool) (op : Int) (hg : ∀ a b, twoN op a b = g a b) (hb : HasBody Try.prog f) (hok : FnOK f F)
    (hF : ∀ a b, F [.d (.v (.s (.int .i64 a))), .d (.v (.s (.int .i64 b)))] = some ([], [.c (.s (.int .i64 (g a b).1)), .c (.s (.bool (g a b).2))], [])) : FvOK f (twoF op) := by
  refine ⟨hb, fun args ob rs h hob => ?_⟩
  unfold twoF at h
  split at h
  · simp only [Option.bind_eq_some_iff, Option.some.injEq, Prod.mk.injEq] at h
    obtain ⟨a, e0, b, e1, rfl, rfl⟩ := h
    simp only [List.map_cons, List.map_nil]
    rw [dI_eq e0, dI_eq e1, hg]
    exact Contract.data (hok _ [] _ _ (hF a b) (by simp)).1
  · simp at h
theorem ok_scalar_two : FnOK 42 F_scalar_two := by
  have k5 : FvOK 58 (twoF 5) := fvok_two num_Add 5 (fun _ _ => rfl) (hasBody_of Try.func58 (by kernel_rfl) (by kernel_rfl)) ok_num_Add (fun a b => rfl)
  have k6 : FvOK 56 (twoF 6) := fvok_two num_Sub 6 (fun _ _ => rfl) (hasBody_of Try.func56 (by kernel_rfl) (by kernel_rfl)) ok_num_Sub (fun a b => rfl)
  have k7 : FvOK 59 (twoF 7) := fvok_two num_Mul 7 (fun _ _ => rfl) (hasBody_of Try.func59 (by kernel_rfl) (by kernel_rfl)) ok_num_Mul (fun a b => rfl)
  have k8 : FvOK 60 (twoF 8) := fvok_two num_Div 8 (fun _ _ => rfl) (hasBody_of Try.func60 (by kernel_rfl) (by kernel_rfl)) ok_num_Div (fun a b => rfl)
  have k9 : FvOK 61 (twoF 9) := fvok_two num_Mod 9 (fun _ _ => rfl) (hasBody_of Try.func61 (by kernel_rfl) (by kernel_rfl)) ok_num_Mod (fun a b => rfl)
  intro args ob rs os h hob
  unfold F_scalar_two at h
  split at h
  · rename_i x0
    simp only [Option.bind_eq_some_iff, Option.some.injEq, Prod.mk.injEq] at h
    obtain ⟨op, e0, rfl, rfl, rfl⟩ := h
    obtain rfl := dI_eq e0
    refine ⟨?_, hasBody_of Try.func42 (by kernel_rfl) (by kernel_rfl)⟩
    have hr := hob _ (List.mem_singleton.2 rfl)
    have fin : ∀ (f : FuncId) (i : Nat), FvOK f (twoF op) → Instr.findNow (.int .i64) (.int .i64 op) twoE 0 = some (some (i, .func (.func f) #[] #[])) → Contract Try.prog En 42 [.d (.v (.s (.int .i64 op)))] [.c (.fv (twoF op))] [] := by
      intro f i hk hn w St vs hbd hvs
      match vs, hvs with
      | [v0], ⟨h0, _⟩ =>
        obtain ⟨rfl, -⟩ := drel_int h0
        refine (two_walk op i _ hn w).mono ?_
        rintro e w' ⟨rfl, hx⟩
        let gg : G := { β := fun _ => 0, lb := fun _ => False, ω := fun _ _ => none, tk := fun _ => (none, 0) }
        exact ⟨_, rfl, hx, gg, fun _ h => h, fun b o x _ h => by simp [gg] at h, fun b o x h => by simp [gg] at h, fun_rel hk, fun k o h => by simp at h⟩
    have hc : op = 5 ∨ op = 6 ∨ op = 7 ∨ op = 8 ∨ op = 9 := by omega
    rcases hc with rfl | rfl | rfl | rfl | rfl
    · exact fin _ 0 k5 rfl
    · exact fin _ 1 k6 rfl
    · exact fin _ 2 k7 rfl
    · exact fin _ 3 k8 rfl
    · exact fin _ 4 k9 rfl
  · simp at h
end Go.Proofs.Ytjmpnpkcgkhagaa.B
