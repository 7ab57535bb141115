/- Part 19 of the proof: Lstabs Lstx4 Lstx5 Svsorted. -/
import Derived.Sort.WalkA
import Derived.Test.YtfdnnfbbjiglcaaDoorGtu18
namespace Go.Proofs.YtfdnnfbbjiglcaaDoor.B
open Go Go.Sort
set_option linter.unusedVariables false
section
variable {α : Type} [Inhabited α]
theorem insInner_list {lt le : α → α → Bool} (hle : ∀ x y, le x y = !lt y x) (h : Pre le) : ∀ (n : Nat) (S : List α) (d : Array α) (P Q : List α) (x : α) (a j : Nat), S.length = n → SrtS le S → a = P.length → j = P.length + S.length → d.toList = P ++ (S ++ x :: Q) → (insInner lt a j d).toList = P ++ (insS le S x ++ Q)
  | 0, S, d, P, Q, x, a, j, hn, hS, ha, hj, hd => by
    rw [List.eq_nil_of_length_eq_zero hn] at hd ⊢
    have : j = a := by omega
    subst this
    have e : insInner lt j j d = d := by
      cases j with
      | zero => rfl
      | succ j => rw [insInner]; simp
    rw [e, hd]; rfl
  | n + 1, S, d, P, Q, x, a, j, hn, hS, ha, hj, hd => by
    rcases List.eq_nil_or_concat S with rfl | ⟨S', y, rfl⟩
    · simp at hn
    rw [List.concat_eq_append] at *
    simp at hn
    have hj' : j = (P.length + S'.length) + 1 := by simp at hj; omega
    subst hj'
    have hy : d[P.length + S'.length]! = y := at_list (P := P ++ S') (Q := x :: Q) (by rw [hd]; simp) (by simp)
    have hx : d[P.length + S'.length + 1]! = x := at_list (P := P ++ (S' ++ [y])) (Q := Q) (by rw [hd]; simp) (by simp; omega)
    have hS' : SrtS le S' := (List.pairwise_append.1 hS).1
    rw [insInner, hx, hy]
    have ga : decide (P.length + S'.length + 1 > a) = true := decide_eq_true (by omega)
    rw [ga, Bool.true_and]
    by_cases c : lt x y = true
    · have hyx : le y x = false := by rw [hle, c]; rfl
      rw [if_pos c]
      have s := swp_list' (d := d) (P := P ++ S') (M := []) (Q := Q) (x := y) (y := x) (by rw [hd]; simp) (i := P.length + S'.length) (j := P.length + S'.length + 1) (by simp) (by simp)
      rw [insInner_list hle h n S' _ P (y :: Q) x a (P.length + S'.length) hn hS' ha rfl (by rw [s]; simp)]
      unfold insS
      have e1 : (S' ++ [y]).takeWhile (fun z => le z x) = S'.takeWhile fun z => le z x := by
        rw [List.takeWhile_append]
        split
        · rename_i hl
          rw [List.takeWhile_cons, if_neg (by rw [hyx]; simp), List.append_nil]
          exact ((List.takeWhile_prefix _).eq_of_length hl).symm
        · rfl
      have e2 : (S' ++ [y]).dropWhile (fun z => le z x) = S'.dropWhile (fun z => le z x) ++ [y] := by
        rw [List.dropWhile_append]
        split
        · rename_i hl
          rw [List.isEmpty_iff] at hl
          rw [hl, List.dropWhile_cons, if_neg (by rw [hyx]; simp)]; rfl
        · rfl
      rw [e1, e2]; simp
    · have hyx : le y x = true := by rw [hle]; simpa using c
      rw [if_neg c, hd]
      have hall : ∀ z ∈ S' ++ [y], le z x = true := fun z hz => by
        rcases List.mem_append.1 hz with hz | hz
        · exact h.trans z y x ((List.pairwise_append.1 hS).2.2 z hz y (by simp)) hyx
        · rw [List.mem_singleton] at hz; subst hz; exact hyx
      unfold insS
      have w1 : (S' ++ [y]).takeWhile (fun z => le z x) = S' ++ [y] := by
        have := List.takeWhile_append_of_pos (p := fun z => le z x) (l₁ := S' ++ [y]) (l₂ := []) hall
        rw [List.append_nil, List.takeWhile_nil, List.append_nil] at this
        exact this
      have w2 : (S' ++ [y]).dropWhile (fun z => le z x) = [] := by
        have := List.dropWhile_append_of_pos (p := fun z => le z x) (l₁ := S' ++ [y]) (l₂ := []) hall
        rw [List.append_nil, List.dropWhile_nil] at this
        exact this
      rw [w1, w2]
      simp
theorem insOuter_list {lt le : α → α → Bool} (hle : ∀ x y, le x y = !lt y x) (h : Pre le) : ∀ (R S : List α) (d : Array α) (P Q : List α) (a b i : Nat), SrtS le S → a = P.length → i = P.length + S.length → b = P.length + S.length + R.length → d.toList = P ++ (S ++ (R ++ Q)) → (insOuter lt a b i d).toList = P ++ (R.foldl (insS le) S ++ Q)
  | [], S, d, P, Q, a, b, i, hS, ha, hi, hb, hd => by
    rw [insOuter, if_neg (by simp at hb; omega), hd]; simp
  | x :: R, S, d, P, Q, a, b, i, hS, ha, hi, hb, hd => by
    rw [insOuter, if_pos (by simp at hb; omega)]
    have e := insInner_list hle h _ S d P (R ++ Q) x a i rfl hS ha hi (by rw [hd]; simp)
    have hl : (insS le S x).length = S.length + 1 := (insS_perm S x).length_eq
    rw [insOuter_list hle h R (insS le S x) _ P Q a b (i + 1) (insS_srt h hS x) ha (by omega) (by simp at hb; omega) e, List.foldl_cons]
theorem insertion_list {lt le : α → α → Bool} (hle : ∀ x y, le x y = !lt y x) (h : Pre le) {d : Array α} {P L Q : List α} {a b : Nat} (ha : a = P.length) (hb : b = P.length + L.length) (hd : d.toList = P ++ (L ++ Q)) : (Sort.insertionSort lt d a b).toList = P ++ (sortS le L ++ Q) := by
  unfold Sort.insertionSort
  cases L with
  | nil =>
    rw [insOuter, if_neg (by simp at hb; omega), hd]; rfl
  | cons x R =>
    rw [insOuter_list hle h R [x] d P Q a b (a + 1) (List.pairwise_singleton _ _) ha (by simp; omega) (by simp at hb ⊢; omega) (by rw [hd]; simp)]
    rfl
def chS (le : α → α → Bool) (bs : Nat) (L : List α) : List α := if h : 0 < bs ∧ bs ≤ L.length then sortS le (L.take bs) ++ chS le bs (L.drop bs) else sortS le L
termination_by L.length
decreasing_by rw [List.length_drop]; omega
theorem stB_list {lt le : α → α → Bool} (hle : ∀ x y, le x y = !lt y x) (h : Pre le) (bs n : Nat) (hb : 0 < bs) : ∀ (k : Nat) (L : List α) (d : Array α) (P : List α) (a : Nat), L.length = k → a = P.length → n = P.length + L.length → d.toList = P ++ L → (stB lt d a n bs).toList = P ++ chS le bs L := by
  intro k
  induction k using Nat.strongRecOn with
  | _ k ih =>
    intro L d P a hk ha hn hd
    rw [stB, chS]
    by_cases c : a + bs ≤ n
    · rw [dif_pos ⟨hb, c⟩, dif_pos ⟨hb, by omega⟩]
      have e := insertion_list hle h (d := d) (P := P) (L := L.take bs) (Q := L.drop bs) (a := a) (b := a + bs) ha (by rw [List.length_take]; omega) (by rw [List.take_append_drop]; exact hd)
      rw [ih (L.length - bs) (by omega) (L.drop bs) _ (P ++ sortS le (L.take bs)) (a + bs) (by rw [List.length_drop]) (by rw [List.length_append, sortS_len h, List.length_take]; omega) (by rw [List.length_append, sortS_len h, List.length_take, List.length_drop]; omega) (by rw [e]; simp)]
      simp
    · rw [dif_neg (by omega), dif_neg (by omega)]
      have e := insertion_list hle h (d := d) (P := P) (L := L) (Q := []) (a := a) (b := n) ha hn (by rw [hd]; simp)
      rw [e]; simp
omit [Inhabited α] in
theorem sortS_nil {le : α → α → Bool} : sortS le ([] : List α) = [] := rfl
omit [Inhabited α] in
theorem chS_small {le : α → α → Bool} {bs : Nat} {L : List α} (h : L.length ≤ bs) (hb : 0 < bs) : chS le bs L = sortS le L := by
  rw [chS]
  by_cases c : bs ≤ L.length
  · rw [dif_pos ⟨hb, c⟩, List.take_of_length_le h, List.drop_of_length_le h, chS, dif_neg (by simp; omega), sortS_nil, List.append_nil]
  · rw [dif_neg (by omega)]
theorem stM_list {lt le : α → α → Bool} (hle : ∀ x y, le x y = !lt y x) (h : Pre le) (bs n : Nat) (hb : 0 < bs) : ∀ (k : Nat) (L : List α) (d : Array α) (P : List α) (a : Nat), L.length = k → a = P.length → n = P.length + L.length → d.toList = P ++ chS le bs L → (stM lt d a n bs).toList = P ++ chS le (2 * bs) L := by
  intro k
  induction k using Nat.strongRecOn with
  | _ k ih =>
    intro L d P a hk ha hn hd
    rw [stM]
    by_cases c : a + 2 * bs ≤ n
    · rw [dif_pos ⟨hb, c⟩]
      have e1 : chS le bs L = sortS le (L.take bs) ++ (sortS le ((L.drop bs).take bs) ++ chS le bs (L.drop (2 * bs))) := by
        rw [chS, dif_pos ⟨hb, by omega⟩, chS, dif_pos ⟨hb, by rw [List.length_drop]; omega⟩, List.drop_drop, show bs + bs = 2 * bs by omega]
      have l1 : (sortS le (L.take bs)).length = bs := by rw [sortS_len h, List.length_take]; omega
      have l2 : (sortS le ((L.drop bs).take bs)).length = bs := by rw [sortS_len h, List.length_take, List.length_drop]; omega
      have e := symF_list hle h (2 * bs) d P (sortS le (L.take bs)) (sortS le ((L.drop bs).take bs)) (chS le bs (L.drop (2 * bs))) a (a + bs) (a + 2 * bs) ha (by omega) (by omega) (by omega) (by omega) (by omega) (sortS_srt h _) (sortS_srt h _) (by rw [hd, e1])
      rw [merge_sortS h, show L.take bs ++ (L.drop bs).take bs = L.take (2 * bs) by rw [show 2 * bs = bs + bs by omega, List.take_add]] at e
      rw [ih (L.length - 2 * bs) (by omega) (L.drop (2 * bs)) _ (P ++ sortS le (L.take (2 * bs))) (a + 2 * bs) (by rw [List.length_drop]) (by rw [List.length_append, sortS_len h, List.length_take]; omega) (by rw [List.length_append, sortS_len h, List.length_take, List.length_drop]; omega) (by rw [e]; simp)]
      conv => rhs; rw [chS, dif_pos ⟨by omega, by omega⟩]
      simp
    · rw [dif_neg (by omega), chS_small (bs := 2 * bs) (by omega) (by omega)]
      by_cases c2 : a + bs < n
      · rw [if_pos c2]
        have e1 : chS le bs L = sortS le (L.take bs) ++ sortS le (L.drop bs) := by
          rw [chS, dif_pos ⟨hb, by omega⟩, chS_small (by rw [List.length_drop]; omega) hb]
        have l1 : (sortS le (L.take bs)).length = bs := by rw [sortS_len h, List.length_take]; omega
        have l2 : (sortS le (L.drop bs)).length = L.length - bs := by rw [sortS_len h, List.length_drop]
        have e := symF_list hle h (n - a) d P (sortS le (L.take bs)) (sortS le (L.drop bs)) [] a (a + bs) n ha (by omega) (by omega) (by omega) (by omega) (by omega) (sortS_srt h _) (sortS_srt h _) (by rw [hd, e1]; simp)
        rw [e, merge_sortS h, List.take_append_drop, List.append_nil]
      · rw [if_neg c2, hd, chS_small (by omega) hb]
theorem stR_list {lt le : α → α → Bool} (hle : ∀ x y, le x y = !lt y x) (h : Pre le) (n : Nat) (L : List α) (hn : n = L.length) : ∀ (k bs : Nat) (d : Array α), 0 < bs → n - bs ≤ k → d.toList = chS le bs L → (stR lt d n bs).toList = sortS le L := by
  intro k
  induction k with
  | zero =>
    intro bs d hb hk hd
    rw [stR, dif_neg (by omega), hd, chS_small (by omega) hb]
  | succ k ih =>
    intro bs d hb hk hd
    rw [stR]
    by_cases c : bs < n
    · rw [dif_pos ⟨hb, c⟩]
      have e := stM_list hle h bs n hb _ L d [] 0 rfl rfl (by simp; omega) (by rw [hd]; simp)
      rw [List.nil_append] at e
      exact ih (2 * bs) _ (by omega) (by omega) e
    · rw [dif_neg (by omega), hd, chS_small (by omega) hb]
theorem stF_list {lt le : α → α → Bool} (hle : ∀ x y, le x y = !lt y x) (h : Pre le) (d : Array α) : (stF lt d d.size).toList = sortS le d.toList := by
  unfold stF
  have e := stB_list hle h 20 d.size (by omega) _ d.toList d [] 0 rfl rfl (by simp) (by simp)
  rw [List.nil_append] at e
  exact stR_list hle h d.size d.toList (by simp) _ 20 _ (by omega) (Nat.le_refl _) e
end
end Go.Proofs.YtfdnnfbbjiglcaaDoor.B
namespace Go.Proofs.YtfdnnfbbjiglcaaDoor.B
open Go Go.RowKit Go.Shelf Go.Lib Go.Sort
set_option maxRecDepth 1000000
set_option linter.unusedVariables false
noncomputable section
variable {α : Type} [Inhabited α]
set_option maxHeartbeats 8000000 in
theorem ins_x (enc : α → Value) (cf : α → α → Int) (g : Nat) (cb : Array Value) (blk off cap a b : Nat) (d0 d : Array α) (w0 w : World)
    (eg : ∀ args w, (callFunc g args).run Tryd.prog w = .ok (.enter g args) w) (hcmp : CmpX Tryd.prog g cb enc cf blk off d0.size w0)
    (R : Row1 enc w0 blk off d0) (hs : d0.size = d.size) (S : SX enc w0 blk off d w) (hab : a ≤ b) (hb : b ≤ d.size) (hsz : d.size < 4611686018427387904) :
    Calls Tryd.prog 52 #[.slice (some ⟨blk, off, none⟩) d.size cap, .int .i64 a, .int .i64 b, .func (.func g) #[] cb] w fun e w' => e = .returned (.tuple #[]) ∧ SX enc w0 blk off (Sort.insertionSort (ltOf cf) d a b) w' := by
  have mixed : Tryd.prog.follows .mixedOrders = true := by kernel_rfl
  have hcl0 := R.hO.cells
  simp only [Value.cells] at hcl0
  have hst := R.hO.store Tryd.prog
  have S0 : Aside (SX enc w0 blk off d w) := S
  have HC : Aside _ := hcmp
  clear S hcmp
  go_enter Tryd.func52, Tryd.ntmps52
  go_wp2_with fail
  go_loopg [8] (b - a) (fun kx s8 wr => ∃ (i : Nat) (dk : Array α), s8 = .int .i64 i ∧ a < i ∧ i ≤ b + 1 ∧ b - i ≤ kx ∧ dk.size = d.size ∧ Aside (SX enc w0 blk off dk wr) ∧ Hid (insOuter (ltOf cf) a b i dk = Sort.insertionSort (ltOf cf) d a b))
  case atStart => exact ⟨a + 1, d, by go_num, by omega, by omega, by omega, rfl, S0, rfl⟩
  case round =>
    clear S0
    obtain ⟨i, dk, rfl, hai, hib, hkx, hds, S1, HQ⟩ := hrel
    by_cases hlt : i < b
    · have hltz : (i : Int) < (b : Int) := by omega
      have HQ2 : Hid (insOuter (ltOf cf) a b (i + 1) (insInner (ltOf cf) a i dk) = Sort.insertionSort (ltOf cf) d a b) := by
        show _ = _
        rw [← HQ.out]; conv => rhs; rw [insOuter, if_pos hlt]
      clear HQ
      go_wp2_with fail
      go_loopg [9] i (fun ky s9 wr => ∃ (j : Nat) (dj : Array α), s9 = .int .i64 j ∧ a ≤ j ∧ j ≤ i ∧ j ≤ ky ∧ dj.size = d.size ∧ Aside (SX enc w0 blk off dj wr) ∧ Hid (insInner (ltOf cf) a j dj = insInner (ltOf cf) a i dk))
      case atStart => exact ⟨i, dk, rfl, by omega, Nat.le_refl _, Nat.le_refl _, hds, S1, rfl⟩
      case round =>
        clear S1
        obtain ⟨j, dj, rfl, haj, hji, hky, hdj, S1, HI⟩ := hrel
        by_cases hja : a < j
        · obtain ⟨jN1, hjN1⟩ : ∃ q, q = j - 1 := ⟨_, rfl⟩
          have hjad : decide ((j : Int) > (a : Int)) = true := decide_eq_true (by omega)
          have hjaz : (a : Int) < (j : Int) := by omega
          have ez1 : ((j : Int) - 1) = (jN1 : Int) := by omega
          have rz1 : IntKind.i64.wrap ((j : Int) - 1) = (jN1 : Int) := by rw [IntKind.wrap_i64]; omega
          have rb1 : IntKind.i64.wrap (jN1 : Int) = (jN1 : Int) := by rw [IntKind.wrap_i64]; omega
          have ea1 : ((j : Int)).toNat = j := by omega
          have pa1 : (0 : Int) ≤ (j : Int) := by omega
          have ba1 : (j : Int) < (d.size : Int) := by omega
          have ec1 : ((jN1 : Int)).toNat = jN1 := by omega
          have pc1 : (0 : Int) ≤ (jN1 : Int) := by omega
          have bc1 : (jN1 : Int) < (d.size : Int) := by omega
          obtain ⟨x1, hx1⟩ : ∃ x, x = dj[j]! := ⟨_, rfl⟩
          obtain ⟨y1, hy1⟩ : ∃ x, x = dj[jN1]! := ⟨_, rfl⟩
          have l1a := S1.out.cl R (by omega) j (by omega)
          have l1b := S1.out.cl R (by omega) jN1 (by omega)
          rw [← hx1] at l1a
          rw [← hy1] at l1b
          have hc1 := S1.out.cmp HC.out (by omega) x1 y1
          have hlt1 : ltOf cf dj[j]! dj[j - 1]! = decide (cf x1 y1 < 0) := by rw [← hjN1, hx1, hy1]; rfl
          have HL := Lib.hid hlt1
          have HJ := Lib.hid hjN1
          have HX := Lib.hid hx1
          have HY := Lib.hid hy1
          clear hlt1 hx1 hy1 hjN1
          by_cases hv : cf x1 y1 < 0
          · have hd1 : decide (cf x1 y1 < 0) = true := decide_eq_true hv
            go_wp2_with fail
            refine wp_region_quiet_below (by assumption) (by kernel_rfl) ?_
            repeat (quiet_step (first | (go_at_fn g; refine Calls.regrown_of (hc1 _ _))))
            refine wpQuiet_nil ?_
            intro _ hw'
            obtain ⟨⟨nq, osq⟩, hw''⟩ := hw'
            subst hw''
            have S2 : Aside (SX enc w0 blk off dj (grow (redrawn wr nq) osq)) := S1.out.regrown nq osq
            clear l1a l1b hc1 S1
            generalize grow (redrawn wr nq) osq = w2 at S2 ⊢
            clear nq osq
            have S3 : Aside (SX enc w0 blk off (swp dj j jN1) ((w2.setCell ⟨blk, off + j, none⟩ (enc y1)).setCell ⟨blk, off + jN1, none⟩ (enc x1)).drew) := by rw [HX.out, HY.out]; exact S2.out.swapped R j jN1 (by omega) (by omega)
            have c1a := S2.out.c1 R (by omega) j (by omega)
            have c1b := S2.out.c1 R (by omega) jN1 (by omega)
            have f1a := S2.out.f1 R (by omega) j (by omega)
            have f1b := S2.out.f1 R (by omega) jN1 (by omega)
            obtain ⟨u1, c1c⟩ := S2.out.c2 R (by omega) j jN1 (by omega) (by omega) (enc y1)
            rw [← HX.out] at c1a
            rw [← HY.out] at c1b
            clear S2
            go_wp2_with fail
            go_big_region_o
            clear c1a c1b c1c f1a f1b
            generalize ((w2.setCell ⟨blk, off + j, none⟩ (enc y1)).setCell ⟨blk, off + jN1, none⟩ (enc x1)).drew = w3 at S3 ⊢
            go_wp2_with fail
            have hjn := HJ.out
            go_roundg jN1
            case measure => omega
            case rel =>
              refine ⟨jN1, swp dj j jN1, by first | rfl | go_num, by omega, by omega, Nat.le_refl _, by rw [size_swp]; exact hdj, S3, ?_⟩
              show _ = _
              rw [← HI.out, insInner_go (ltOf cf) a j dj hja (by rw [HL.out, hd1]), hjn]
          · have hd1 : decide (cf x1 y1 < 0) = false := decide_eq_false hv
            go_wp2_with fail
            refine wp_region_quiet_below (by assumption) (by kernel_rfl) ?_
            repeat (quiet_step (first | (go_at_fn g; refine Calls.regrown_of (hc1 _ _))))
            refine wpQuiet_nil ?_
            intro _ hw'
            obtain ⟨⟨nq, osq⟩, hw''⟩ := hw'
            subst hw''
            have S2 : Aside (SX enc w0 blk off dj (grow (redrawn wr nq) osq)) := S1.out.regrown nq osq
            clear l1a l1b hc1 S1
            generalize grow (redrawn wr nq) osq = w2 at S2 ⊢
            clear nq osq
            go_wp2_with fail
            go_roundg (b - (i + 1))
            case measure => omega
            case rel =>
              refine ⟨i + 1, dj, by go_num, by omega, by omega, Nat.le_refl _, hdj, S2, ?_⟩
              show _ = _
              rw [← HQ2.out, ← HI.out, insInner_stop (ltOf cf) a j dj (.inr (by rw [HL.out, hd1]))]
        · have hjad : decide ((j : Int) > (a : Int)) = false := decide_eq_false (by omega)
          have hjaz : ¬ (a : Int) < (j : Int) := by omega
          go_wp2_with fail
          go_big_region_o
          have S2 : Aside (SX enc w0 blk off dj wr.drew) := S1.out.drew
          clear S1
          generalize wr.drew = w2 at S2 ⊢
          go_wp2_with fail
          go_roundg (b - (i + 1))
          case measure => omega
          case rel =>
            refine ⟨i + 1, dj, by go_num, by omega, by omega, Nat.le_refl _, hdj, S2, ?_⟩
            show _ = _
            rw [← HQ2.out, ← HI.out, insInner_stop (ltOf cf) a j dj (.inl (by omega))]
    · have hltz : ¬ (i : Int) < (b : Int) := by omega
      go_wp2_with fail
      go_end0
      exact ⟨rfl, by rw [← HQ.out, insOuter, if_neg hlt]; exact S1.out⟩
theorem size_ins (lt : α → α → Bool) (d : Array α) (a b : Nat) : (Sort.insertionSort lt d a b).size = d.size := by
  have inner : ∀ (j : Nat) (d : Array α), (insInner lt a j d).size = d.size := by
    intro j
    induction j with
    | zero => intro d; rfl
    | succ j ih =>
      intro d
      rw [insInner]
      split
      · rw [ih, size_swp]
      · rfl
  have outer : ∀ (k i : Nat) (d : Array α), b - i ≤ k → (insOuter lt a b i d).size = d.size := by
    intro k
    induction k with
    | zero => intro i d h; rw [insOuter, if_neg (by omega)]
    | succ k ih =>
      intro i d h
      rw [insOuter]
      split
      · rw [ih _ _ (by omega), inner]
      · rfl
  exact outer _ _ _ (Nat.le_refl _)
theorem size_stM (lt : α → α → Bool) (n bs : Nat) : ∀ (k a : Nat) (d : Array α), n - a ≤ k → (stM lt d a n bs).size = d.size := by
  intro k
  induction k with
  | zero => intro a d h; rw [stM, dif_neg (by omega)]; split <;> first | rfl | rw [size_symF]
  | succ k ih =>
    intro a d h
    rw [stM]
    split
    · rw [ih _ _ (by omega), size_symF]
    · split <;> first | rfl | rw [size_symF]
attribute [local irreducible] symF Sort.insertionSort in
set_option maxHeartbeats 4000000 in
theorem stable_x (enc : α → Value) (cf : α → α → Int) (g : Nat) (cb : Array Value) (blk off cap : Nat) (d0 d : Array α) (w0 w : World)
    (eg : ∀ args w, (callFunc g args).run Tryd.prog w = .ok (.enter g args) w) (hcmp : CmpX Tryd.prog g cb enc cf blk off d0.size w0)
    (R : Row1 enc w0 blk off d0) (hs : d0.size = d.size) (S : SX enc w0 blk off d w) (hsz : d.size < 1152921504606846976) :
    Calls Tryd.prog 36 #[.slice (some ⟨blk, off, none⟩) d.size cap, .int .i64 d.size, .func (.func g) #[] cb] w fun e w' => e = .returned (.tuple #[]) ∧ SX enc w0 blk off (stF (ltOf cf) d d.size) w' := by
  have mixed : Tryd.prog.follows .mixedOrders = true := by kernel_rfl
  have HC : Aside _ := hcmp
  have S0 : Aside (SX enc w0 blk off d w) := S
  clear S hcmp
  have hins : ∀ (dk : Array α) (W : World) (x y : Nat), dk.size = d.size → SX enc w0 blk off dk W → x ≤ y → y ≤ d.size →
      Calls Tryd.prog 52 #[.slice (some ⟨blk, off, none⟩) d.size cap, .int .i64 x, .int .i64 y, .func (.func g) #[] cb] W fun e w' => e = .returned (.tuple #[]) ∧ SX enc w0 blk off (Sort.insertionSort (ltOf cf) dk x y) w' := fun dk W x y h1 h2 h3 h4 => by
    have := ins_x enc cf g cb blk off cap x y d0 dk w0 W eg HC.out R (by omega) h2 h3 (by omega) (by omega)
    rwa [h1] at this
  have hsym : ∀ (f : Nat) (dk : Array α) (W : World) (x y z : Nat), dk.size = d.size → SX enc w0 blk off dk W → x < y → y < z → z ≤ d.size → z - x ≤ f →
      Calls Tryd.prog 53 #[.slice (some ⟨blk, off, none⟩) d.size cap, .int .i64 x, .int .i64 y, .int .i64 z, .func (.func g) #[] cb] W fun e w' => e = .returned (.tuple #[]) ∧ SX enc w0 blk off (symF (ltOf cf) f dk x y z) w' := fun f dk W x y z h1 h2 h3 h4 h5 h6 => by
    have := sym_x enc cf g cb blk off cap d0 w0 eg HC.out R (by omega) f dk W x y z (by omega) h2 h3 h4 (by omega) h6
    rwa [h1] at this
  have HI := Lib.hid hins
  have HS := Lib.hid hsym
  clear hins hsym
  obtain ⟨n, hn⟩ : ∃ n, n = d.size := ⟨_, rfl⟩
  rw [← hn] at HI HS hsz ⊢
  have HN := Lib.hid hn
  clear hn
  go_enter Tryd.func36, Tryd.ntmps36
  go_wp2_with fail
  go_loopg [7, 8] n (fun kx s7 s8 wr => ∃ (a b : Nat) (dk : Array α), s7 = .int .i64 a ∧ s8 = .int .i64 b ∧ Hid (b = a + 20) ∧ a ≤ n ∧ n - a ≤ kx ∧ dk.size = d.size ∧ Aside (SX enc w0 blk off dk wr) ∧ Hid (stB (ltOf cf) dk a n 20 = stB (ltOf cf) d 0 n 20))
  case atStart => exact ⟨0, 20, d, by go_num, by go_num, rfl, Nat.zero_le _, by omega, rfl, S0, rfl⟩
  case round =>
    clear S0
    obtain ⟨a, b, dk, rfl, rfl, HB, han, hkx, hds, S1, HQ⟩ := hrel
    by_cases hle : b ≤ n
    · have hlez : (b : Int) ≤ (n : Int) := by omega
      go_wp2_with (first
        | (go_at_call 52; refine (HI.out _ _ _ _ (hds.trans HN.out.symm) S1.out (by have := HB.out; omega) hle).mono ?_; rintro e1 w1 ⟨rfl, T⟩; have S1 := Lib.hid T; clear T)
        | fail)
      have hb := HB.out
      go_roundg (n - b)
      case measure => omega
      case rel =>
        refine ⟨b, b + 20, _, rfl, by go_num, rfl, hle, Nat.le_refl _, by rw [size_ins]; exact hds, S1.out, ?_⟩
        show _ = _
        rw [← HQ.out]; conv => rhs; rw [stB, dif_pos ⟨by omega, by omega⟩]
        rw [hb]
    · have hlez : ¬ (b : Int) ≤ (n : Int) := by omega
      have hb := HB.out
      have hq : stB (ltOf cf) d 0 n 20 = Sort.insertionSort (ltOf cf) dk a n := by rw [← HQ.out, stB, dif_neg (by omega)]
      have HQ2 := Lib.hid hq
      clear hb hq
      go_wp2_with (first
        | (go_at_call 52; refine (HI.out _ _ _ _ (hds.trans HN.out.symm) S1.out han (Nat.le_refl _)).mono ?_; rintro e1 w1 ⟨rfl, T⟩; have S1 := Lib.hid T; clear T)
        | fail)
      have hd1 : (Sort.insertionSort (ltOf cf) dk a n).size = d.size := by rw [size_ins]; exact hds
      rw [← HQ2.out] at hd1
      have S2 : Aside (SX enc w0 blk off (stB (ltOf cf) d 0 n 20) w1) := by rw [HQ2.out]; exact S1.out
      clear HQ2 HQ S1 hds
      have hR : Hid (stR (ltOf cf) (stB (ltOf cf) d 0 n 20) n 20 = stF (ltOf cf) d n) := rfl
      generalize stB (ltOf cf) d 0 n 20 = d1 at hd1 S2 hR
      go_loopg [6, 7, 8, 9] n (fun kx s6 s7 s8 s9 wr => ∃ (bs : Nat) (dk : Array α), s6 = .int .i64 bs ∧ 0 < bs ∧ bs ≤ 2 * n + 20 ∧ n - bs ≤ kx ∧ dk.size = d.size ∧ Aside (SX enc w0 blk off dk wr) ∧ Hid (stR (ltOf cf) dk n bs = stF (ltOf cf) d n))
      case atStart => exact ⟨20, d1, by go_num, by omega, by omega, by omega, hd1, S2, hR⟩
      case round =>
        clear S2 hR hd1
        obtain ⟨bs, dk, rfl, hb0, hb2, hkx, hds, S1, HQ⟩ := hrel
        by_cases c : bs < n
        · have cz : (bs : Int) < (n : Int) := by omega
          go_wp2_with fail
          go_loopg [7, 8] n (fun ky s7 s8 wr => ∃ (a b : Nat) (dj : Array α), s7 = .int .i64 a ∧ s8 = .int .i64 b ∧ Hid (b = a + 2 * bs) ∧ a ≤ n ∧ n - a ≤ ky ∧ dj.size = d.size ∧ Aside (SX enc w0 blk off dj wr) ∧ Hid (stM (ltOf cf) dj a n bs = stM (ltOf cf) dk 0 n bs))
          case atStart => exact ⟨0, 2 * bs, dk, by go_num, by go_num, (show Hid _ from (by omega : 2 * bs = 0 + 2 * bs)), Nat.zero_le _, by omega, hds, S1, rfl⟩
          case round =>
            clear S1
            obtain ⟨a, b, dj, rfl, rfl, HB, han, hky, hdj, S1, HM⟩ := hrel
            obtain ⟨mm, hmm⟩ : ∃ q, q = a + bs := ⟨_, rfl⟩
            have hmz : (a : Int) + (bs : Int) = (mm : Int) := by omega
            have HMM := Lib.hid hmm
            clear hmm
            by_cases hle : b ≤ n
            · have hlez : (b : Int) ≤ (n : Int) := by omega
              go_wp2_with (first
                | (go_at_call 53; refine (HS.out (2 * bs) _ _ _ _ _ (hdj.trans HN.out.symm) S1.out (by have := HMM.out; omega) (by have := HMM.out; have := HB.out; omega) hle (by have := HB.out; omega)).mono ?_; rintro e1 w1 ⟨rfl, T⟩; have S1 := Lib.hid T; clear T)
                | fail)
              have hb := HB.out
              have hm := HMM.out
              go_roundg (n - b)
              case measure => omega
              case rel =>
                refine ⟨b, b + 2 * bs, _, rfl, by go_num, rfl, hle, Nat.le_refl _, by rw [size_symF]; exact hdj, S1.out, ?_⟩
                show _ = _
                rw [← HM.out]; conv => rhs; rw [stM, dif_pos ⟨by omega, by omega⟩]
                rw [hb, hm]
            · have hlez : ¬ (b : Int) ≤ (n : Int) := by omega
              have hb := HB.out
              have hm := HMM.out
              have hq : stM (ltOf cf) dk 0 n bs = if mm < n then symF (ltOf cf) (n - a) dj a mm n else dj := by rw [← HM.out, stM, dif_neg (by omega), hm]
              have hq2 : stR (ltOf cf) (stM (ltOf cf) dk 0 n bs) n (2 * bs) = stF (ltOf cf) d n := by rw [← HQ.out]; conv => rhs; rw [stR, dif_pos ⟨by omega, by omega⟩]
              have hma : a < mm := by omega
              have HQ1 := Lib.hid hq
              have HQ2 := Lib.hid hq2
              have hsz1 : (stM (ltOf cf) dk 0 n bs).size = d.size := by rw [size_stM _ _ _ _ _ _ (Nat.le_refl _)]; exact hds
              clear hb hm hq hq2
              by_cases c3 : mm < n
              · have c3z : (mm : Int) < (n : Int) := by omega
                go_wp2_with (first
                  | (go_at_call 53; refine (HS.out (n - a) _ _ _ _ _ (hdj.trans HN.out.symm) S1.out hma c3 (Nat.le_refl _) (Nat.le_refl _)).mono ?_; rintro e1 w1 ⟨rfl, T⟩; have S1 := Lib.hid T; clear T)
                  | fail)
                have hS : Aside (SX enc w0 blk off (stM (ltOf cf) dk 0 n bs) w1) := by rw [HQ1.out, if_pos c3]; exact S1.out
                go_roundg (n - 2 * bs)
                case measure => omega
                case rel => exact ⟨2 * bs, _, by go_num, by omega, by omega, Nat.le_refl _, hsz1, hS, HQ2.out⟩
              · have c3z : ¬ (mm : Int) < (n : Int) := by omega
                go_wp2_with fail
                have hS : Aside (SX enc w0 blk off (stM (ltOf cf) dk 0 n bs) wr) := by rw [HQ1.out, if_neg c3]; exact S1.out
                go_roundg (n - 2 * bs)
                case measure => omega
                case rel => exact ⟨2 * bs, _, by go_num, by omega, by omega, Nat.le_refl _, hsz1, hS, HQ2.out⟩
        · have cz : ¬ (bs : Int) < (n : Int) := by omega
          have hq : dk = stF (ltOf cf) d n := by rw [← HQ.out, stR, dif_neg (by omega)]
          have HQ1 := Lib.hid hq
          clear hq
          go_wp2_with fail
          go_end0
          exact ⟨rfl, by rw [← HQ1.out]; exact S1.out⟩
end
end Go.Proofs.YtfdnnfbbjiglcaaDoor.B
namespace Go.Proofs.YtfdnnfbbjiglcaaDoor.B
open Go Go.RowKit Go.Shelf Go.Lib Go.Sort
set_option maxRecDepth 1000000
set_option linter.unusedVariables false
noncomputable section
section
variable {α : Type} [Inhabited α]
set_option maxHeartbeats 4000000 in
theorem sst_x (enc : α → Value) (cf : α → α → Int) (g : Nat) (cb : Array Value) (blk off cap : Nat) (d0 d : Array α) (w0 w : World)
    (eg : ∀ args w, (callFunc g args).run Tryd.prog w = .ok (.enter g args) w) (hcmp : CmpX Tryd.prog g cb enc cf blk off d0.size w0)
    (R : Row1 enc w0 blk off d0) (hs : d0.size = d.size) (S : SX enc w0 blk off d w) (hsz : d.size < 1152921504606846976) :
    Calls Tryd.prog 25 #[.slice (some ⟨blk, off, none⟩) d.size cap, .func (.func g) #[] cb] w fun e w' => e = .returned (.tuple #[]) ∧ SX enc w0 blk off (stF (ltOf cf) d d.size) w' := by
  have H := Lib.hid (stable_x enc cf g cb blk off cap d0 d w0 w eg hcmp R hs S hsz)
  clear S hcmp
  obtain ⟨n, hn⟩ : ∃ n, n = d.size := ⟨_, rfl⟩
  rw [← hn] at H hsz ⊢
  clear hn
  go_enter Tryd.func25, Tryd.ntmps25
  go_wp2_with (first
    | (go_at_call 36; refine H.out.mono ?_; rintro e1 w1 ⟨rfl, T⟩; have S1 := Lib.hid T; clear T)
    | fail)
  go_end0
  exact ⟨rfl, S1.out⟩
end
theorem ins_nil (p : Option Addr) (cap g : Nat) (cb : Array Value) (w : World) : Calls Tryd.prog 52 #[.slice p 0 cap, .int .i64 0, .int .i64 0, .func (.func g) #[] cb] w fun e w' => e = .returned (.tuple #[]) ∧ w' = w := by
  go_enter Tryd.func52, Tryd.ntmps52
  go_wp2_with fail
  go_loopg [8] 0 (fun kx s8 wr => s8 = .int .i64 1 ∧ wr = w)
  case atStart => exact ⟨by go_num, rfl⟩
  case round =>
    obtain ⟨rfl, rfl⟩ := hrel
    go_wp2_with fail
    go_end0
    exact ⟨rfl, rfl⟩
theorem stable_nil (p : Option Addr) (cap g : Nat) (cb : Array Value) (w : World) : Calls Tryd.prog 36 #[.slice p 0 cap, .int .i64 0, .func (.func g) #[] cb] w fun e w' => e = .returned (.tuple #[]) ∧ w' = w := by
  go_enter Tryd.func36, Tryd.ntmps36
  go_wp2_with fail
  go_loopg [7, 8] 0 (fun kx s7 s8 wr => s7 = .int .i64 0 ∧ s8 = .int .i64 20 ∧ wr = w)
  case atStart => exact ⟨by go_num, by go_num, rfl⟩
  case round =>
    obtain ⟨rfl, rfl, rfl⟩ := hrel
    go_wp2_with (first
      | (go_at_call 52; refine (ins_nil _ _ _ _ _).mono ?_; rintro e1 w1 ⟨rfl, rfl⟩)
      | fail)
    go_loopg [6, 7, 8, 9] 0 (fun kx s6 s7 s8 s9 wr => s6 = .int .i64 20 ∧ wr = w1)
    case atStart => exact ⟨by go_num, rfl⟩
    case round =>
      obtain ⟨rfl, rfl⟩ := hrel
      go_wp2_with fail
      go_end0
      exact ⟨rfl, rfl⟩
theorem sst_nil (p : Option Addr) (cap g : Nat) (cb : Array Value) (w : World) : Calls Tryd.prog 25 #[.slice p 0 cap, .func (.func g) #[] cb] w fun e w' => e = .returned (.tuple #[]) ∧ w' = w := by
  go_enter Tryd.func25, Tryd.ntmps25
  go_wp2_with (first
    | (go_at_call 36; refine (stable_nil _ _ _ _ _).mono ?_; rintro e1 w1 ⟨rfl, rfl⟩)
    | fail)
  go_end0
  exact ⟨rfl, rfl⟩
theorem putR_sx {α : Type} [Inhabited α] {enc : α → Value} {w W : World} {b off : Nat} {d0 d : Array α} (hb : b < w.heap.size) (hH : Holds enc w b off d0) (hs : d.size = d0.size) (h : SX enc w b off d W) : PutR w W b off (d.toList.map enc) := by
  have q := putR_of (n := 0) (os := #[]) hb hH hs
  rw [grow_empty] at q
  have q : PutR w (putRow enc w b off d) b off (d.toList.map enc) := q
  refine ⟨h.os.trans q.os, h.tape.trans q.tape, h.output.trans q.output, h.le, fun k hk hne => (h.block k hk).trans (q.block k hk hne), fun i v hv => ?_, fun p hp ho => ?_, fun p hp => ?_⟩
  · exact (Below.cell h hb).trans (q.cell i v hv)
  · exact (Below.cell h hp).trans (q.other p hp ho)
  · exact (stuck_heap (h.block p.block hp)).trans (q.frozen p hp)
theorem below_ext {w w' : World} (h : Ext w w') : Below w.heap.size w w' := ⟨h.os, h.tape, h.output, h.size, fun k hk => h.block hk⟩
theorem insS_map {α β : Type} (f : α → β) (le : β → β → Bool) (l : List α) (x : α) : (insS (fun a b => le (f a) (f b)) l x).map f = insS le (l.map f) (f x) := by
  unfold insS
  rw [List.map_append, List.map_cons, List.takeWhile_map, List.dropWhile_map]
  rfl
theorem sortS_map {α β : Type} (f : α → β) (le : β → β → Bool) (l : List α) : (sortS (fun a b => le (f a) (f b)) l).map f = sortS le (l.map f) := by
  have key : ∀ (l s : List α), (l.foldl (insS fun a b => le (f a) (f b)) s).map f = (l.map f).foldl (insS le) (s.map f) := by
    intro l
    induction l with
    | nil => intro s; rfl
    | cons x l ih => intro s; rw [List.foldl_cons, List.map_cons, List.foldl_cons, ih, insS_map]
  exact key l []
theorem vrel_sl {St : Nat → Nat → Prop} {w : World} {v : Value} {τ : Ty} {xs : List (Den τ)} (h : VRel En St w v (.dat (U := Un) τ xs)) : ∃ a n c, v = .slice a n c := by
  rcases h.inv with ⟨_, a, c, rfl⟩ | ⟨b, o, c, cv, rfl, _⟩
  · exact ⟨_, _, _, rfl⟩
  · exact ⟨_, _, _, rfl⟩
theorem finMap {β : Type} (xs : List β) : ((List.finRange xs.length).map fun i => xs[i.1]'i.2) = xs := by
  apply List.ext_getElem
  · simp
  · intro i h1 h2; simp
def leP {β : Type} (p : β → β → Int) (a b : β) : Bool := !decide (p b a < 0)
def U_stable_row : FnU Un := fun τ xs args => match τ, xs, args with
  | .row, xs, [x1] => (dF x1).bind fun φ => some ([xs.length ≤ 1000000000, φ = fvo_L_val_L_val_to_i_i64 (po_L_val_L_val_to_i_i64 φ) (pf_L_val_L_val_to_i_i64 φ), (∀ x ∈ xs, ∀ y ∈ xs, po_L_val_L_val_to_i_i64 φ x y), Pre (leP (pf_L_val_L_val_to_i_i64 φ))], sortS (leP (pf_L_val_L_val_to_i_i64 φ)) xs)
  | _, _, _ => none
theorem okU_stable_row : UpOK 25 U_stable_row := by
  intro τ xs ds ob ys h hob
  unfold U_stable_row at h
  split at h
  · rename_i xs x1
    simp only [Option.bind_eq_some_iff, Option.some.injEq, Prod.mk.injEq] at h
    obtain ⟨φ, e1, rfl, rfl⟩ := h
    obtain rfl := dF_eq e1
    have hlen : xs.length ≤ 1000000000 := hob _ (by simp)
    have hφ : φ = fvo_L_val_L_val_to_i_i64 (po_L_val_L_val_to_i_i64 φ) (pf_L_val_L_val_to_i_i64 φ) := hob _ (by simp)
    have ho : ∀ x ∈ xs, ∀ y ∈ xs, po_L_val_L_val_to_i_i64 φ x y := hob _ (by simp)
    have hP : Pre (leP (pf_L_val_L_val_to_i_i64 φ)) := hob _ (by simp)
    generalize po_L_val_L_val_to_i_i64 φ = o at hφ ho
    generalize pf_L_val_L_val_to_i_i64 φ = p at hφ hP ⊢
    refine ⟨fun w g k ver live vs hO hown hvs hld hnl => ?_, hasBody_of Tryd.func25 (by kernel_rfl) (by kernel_rfl)⟩
    match vs, hvs with
    | [v1], ⟨hv, _⟩ =>
      obtain ⟨f, caps, rfl, hbody, hg⟩ := hv
      have hsl : (sortS (leP p) xs).length = xs.length := sortS_len hP xs
      by_cases hne : xs = []
      · subst hne
        refine (sst_nil (g.tk k).1 (g.tk k).2 f caps w).mono ?_
        rintro e w' ⟨rfl, rfl⟩
        exact ⟨rfl, hsl, ⟨rfl, rfl, rfl, Nat.le_refl _, fun _ _ _ => rfl, fun _ _ _ _ => rfl, fun _ _ _ _ => rfl, hld, fun b hl => hld.lt b hl, hnl⟩, hO⟩
      · obtain ⟨b, off, htk, hcap, hA⟩ := hO.open1 hne
        have hpos : 0 < xs.length := List.length_pos_iff.2 hne
        have hb : b < w.heap.size := lt_of_cell (hA.cell 0 0 hpos (show (0 : Nat) < 1 from Nat.one_pos)).1
        have h0 : (g.tk k).1 = some ⟨b, off, none⟩ := by rw [htk]
        rw [h0]
        have hcl : ∀ i, i < xs.length → w.cell? ⟨b, off + i, none⟩ = some ((w.cell? ⟨b, off + i, none⟩).getD undef) ∧ w.frozen? ⟨b, off + i, none⟩ = false ∧ VRel En g.St w ((w.cell? ⟨b, off + i, none⟩).getD undef) (.dat (U := Un) Ty.val (xs.getD i [])) := fun i hi => by
          have hc := hA.cell i 0 hi (show (0 : Nat) < 1 from Nat.one_pos)
          have hr := hA.rel i hi 0 (.dat (U := Un) Ty.val xs[i]) rfl
          have e : off + i * Un.sz Ty.row + 0 = off + i := by show off + i * 1 + 0 = off + i; omega
          rw [e] at hc hr
          have hm := hc.2.2 (Nat.zero_le _)
          refine ⟨hc.1, ?_, ?_⟩
          · exact stuck_no hm.2
          · rw [List.getD_eq_getElem?_getD, List.getElem?_eq_getElem hi]; exact hr
        haveI : Inhabited (Fin xs.length) := ⟨⟨0, hpos⟩⟩
        let enc : Fin xs.length → Value := fun i => (w.cell? ⟨b, off + i.1, none⟩).getD undef
        let cf : Fin xs.length → Fin xs.length → Int := fun i j => p (xs.getD i.1 []) (xs.getD j.1 [])
        let d : Array (Fin xs.length) := (List.finRange xs.length).toArray
        have hds : d.size = xs.length := by simp [d]
        have hdj : ∀ j (hj : j < xs.length), d[j]! = ⟨j, hj⟩ := fun j hj => by
          rw [getElem!_pos d j (by omega)]
          simp [d]
        have hH : Holds enc w b off d := fun j hj => by
          rw [hds] at hj
          rw [hdj j hj]
          exact ⟨(hcl j hj).1, (hcl j hj).2.1⟩
        have h1c : OneCell enc := fun x => by obtain ⟨a, n, c, e⟩ := vrel_sl (hcl x.1 x.2).2.2; show (enc x).oneCell' = true; rw [show enc x = .slice a n c from e]; rfl
        have R : Row1 enc w b off d := ⟨h1c, hH, hb⟩
        have S0 : SX enc w b off d w := by unfold SX; rw [putRow_self enc w b off d hH]; exact Below.refl _ _
        have hbnd : ∀ b o, g.St b o → b < w.heap.size := fun b o h => hown b o _ h
        have hcmp : CmpX Tryd.prog f caps enc cf b off d.size w := fun W dk hsz hW x y => by
          have hpr := putR_sx hb hH hsz hW
          have hdl : (dk.toList.map enc).length = xs.length := by rw [List.length_map, Array.length_toList, hsz, hds]
          have hk : Keeps g.St w g.St W := fun b' o hs => ⟨hs, hpr.other _ (hbnd b' o hs) (by
            by_cases e1 : b' = b
            · subst e1
              by_cases e2 : o < off
              · exact .inl e2
              · by_cases e3 : off + xs.length ≤ o
                · right; left; rw [hdl]; exact e3
                · exfalso
                  have hc := (hA.cell (o - off) 0 (show o - off < xs.length by omega) (show (0 : Nat) < 1 from Nat.one_pos)).2.2 (Nat.zero_le _)
                  have e : off + (o - off) * Un.sz Ty.row + 0 = o := by show off + (o - off) * 1 + 0 = o; omega
                  rw [e] at hc
                  have h9 : g.ω b' o = some .st := hs
                  rw [h9] at hc; simp at hc
            · exact .inr (.inr e1))⟩
          have hldW : Laid W := hld.on hW.le fun k hl => hpr.block k (hld.lt k hl) fun e => hnl k (off + 0) hl (by
            have hc := (hA.cell 0 0 hpos (show (0 : Nat) < 1 from Nat.one_pos)).2.2 (Nat.zero_le _)
            rw [e]; simpa using hc.1)
          have hvx := (hcl x.1 x.2).2.2.mono hk
          have hvy := (hcl y.1 y.2).2.2.mono hk
          have hm : ∀ i : Fin xs.length, xs.getD i.1 [] ∈ xs := fun i => by rw [List.getD_eq_getElem?_getD, List.getElem?_eq_getElem i.2]; exact List.getElem_mem _
          refine (hg g.St W hk (fun b' o hs => Nat.lt_of_lt_of_le (hbnd b' o hs) hW.le) hldW [.v (.dat (U := Un) Ty.val (xs.getD x.1 [])), .v (.dat (U := Un) Ty.val (xs.getD y.1 []))] [o (xs.getD x.1 []) (xs.getD y.1 [])] [.v (.s (.int .i64 (cf x y)))]
            (by rw [hφ]; unfold fvo_L_val_L_val_to_i_i64; simp only [dL_mk, Option.bind_some]; rfl) (fun q hq => by rw [List.mem_singleton.1 hq]; exact ho _ (hm x) _ (hm y)) [enc x, enc y] ⟨hvx, hvy, trivial⟩).mono ?_
          rintro e w' ⟨v, rfl, ⟨hx, St', -, -, hr⟩, -⟩
          exact ⟨by rw [show v = .int .i64 (cf x y) from (vrel_s hr).1], below_ext hx⟩
        have eg : ∀ args W, (callFunc f args).run Tryd.prog W = .ok (.enter f args) W := fun args W => by
          obtain ⟨fn, c, q1, q2, q3⟩ := hbody
          have hn : fn.name ≠ "runtime.NumGoroutine" := by simpa using q3
          simp [callFunc, q1, q2, hn]
        have hle : ∀ x y : Fin xs.length, leP p (xs.getD x.1 []) (xs.getD y.1 []) = !ltOf cf y x := fun x y => rfl
        have hPF : Pre fun x y : Fin xs.length => leP p (xs.getD x.1 []) (xs.getD y.1 []) := ⟨fun a b c => hP.trans _ _ _, fun a b => hP.total _ _⟩
        have hst := stF_list hle hPF d
        have hmap := sortS_map (fun i : Fin xs.length => xs.getD i.1 []) (leP p) (List.finRange xs.length)
        have hfm : ((List.finRange xs.length).map fun i => xs.getD i.1 []) = xs := by
          have := finMap xs
          conv => rhs; rw [← this]
          apply List.map_congr_left
          intro i _
          rw [List.getD_eq_getElem?_getD, List.getElem?_eq_getElem i.2]; rfl
        rw [hfm] at hmap
        have hss : (stF (ltOf cf) d d.size).size = d.size := by rw [← Array.length_toList, hst, sortS_len hPF, Array.length_toList]
        have hw := (sst_x enc cf f caps b off (g.tk k).2 d d w w eg hcmp R rfl S0 (by omega)).mono (fun e w' hq => show e = .returned (.tuple #[]) ∧ PutR w w' b off ((sortS (fun x y : Fin xs.length => leP p (xs.getD x.1 []) (xs.getD y.1 [])) d.toList).map enc) by
          have hp := putR_sx hb hH hss hq.2
          rw [hst] at hp
          exact ⟨hq.1, hp⟩)
        rw [hds] at hw
        refine hw.mono ?_
        rintro e w' ⟨rfl, hp⟩
        have hul : ((sortS (fun x y : Fin xs.length => leP p (xs.getD x.1 []) (xs.getD y.1 [])) d.toList).map enc).length = xs.length := by rw [List.length_map, sortS_len hPF, Array.length_toList, hds]
        obtain ⟨r1, _⟩ := ObRel.put (w' := w') (ys := sortS (leP p) xs) (τ := .row) rfl htk hb hown hA hp hul (by rw [hul, hsl]; exact Nat.le_refl _) hcap (by omega) (fun i hi dd hd => by
          have hd' : some (V.dat (U := Un) Ty.val (sortS (leP p) xs)[i]) = some dd := hd
          cases hd'
          have hi2 : i < (sortS (fun x y : Fin xs.length => leP p (xs.getD x.1 []) (xs.getD y.1 [])) d.toList).length := by rw [List.length_map] at hul; omega
          refine ⟨enc (sortS (fun x y : Fin xs.length => leP p (xs.getD x.1 []) (xs.getD y.1 [])) d.toList)[i], by rw [List.getElem?_map, List.getElem?_eq_getElem hi2]; rfl, ?_⟩
          have h3 : (sortS (leP p) xs)[i]? = some (xs.getD ((sortS (fun x y : Fin xs.length => leP p (xs.getD x.1 []) (xs.getD y.1 [])) d.toList)[i]).1 []) := by
            rw [← hmap, List.getElem?_map]
            have : (List.finRange xs.length) = d.toList := rfl
            rw [this, List.getElem?_eq_getElem hi2]; rfl
          rw [List.getElem?_eq_getElem hi] at h3
          rw [Option.some.inj h3]
          exact (hcl _ (Fin.isLt _)).2.2)
        refine ⟨rfl, hsl, ?_, r1⟩
        refine FExt.put (fr := ⟨w, fun b i => g.ω b i = some (.obj k), g.St, 0, g.β⟩) hp (fun i hi => ?_) (by rw [hul]; exact hpos) hld hnl
        rw [hul] at hi
        have hc := (hA.cell i 0 hi (show (0 : Nat) < 1 from Nat.one_pos)).2.2 (Nat.zero_le _)
        have e : off + i * Un.sz Ty.row + 0 = off + i := by show off + i * 1 + 0 = off + i; omega
        rw [e] at hc
        exact hc.1
  · simp at h
end
end Go.Proofs.YtfdnnfbbjiglcaaDoor.B
namespace Go.Proofs.YtfdnnfbbjiglcaaDoor.B
open Go Go.RowKit
set_option maxRecDepth 100000
noncomputable section
attribute [local irreducible] awp ctxK itersK iterK retQ retGQ awf ctxF loopF
def M_value_Sorted : Mc Un := mach (tbl [(22, F_clone_row)]) (tbl [(15, V_value_Orders)]) (tbl []) (tbl []) (tbl [(25, U_stable_row)])
def A_value_Sorted (r : List (List Val)) : List (A Un) := [.c (.sl (U := Un) Ty.row r false)]
def O_value_Sorted (_r : List (List Val)) : List (Ob Un) := []
def R_value_Sorted (r : List (List Val)) : RF Un := (A_value_Sorted r, O_value_Sorted r)
def N_value_Sorted : Nat → NS := fun l => (look l [(3, { ts := bl 24 3592, bs := bl 24 0, nm := [(.sl 3, 96)], cs := true })]).getD ⟨[], [], [], [], [], true⟩
def value_Sorted_s3 (l : List (List Val)) (v0 : Int) (v1 : List (List Val)) : S Un := (st 24 24 97 0 [(3, ao 96), (9, al .row l), (10, ai (↑l.length : Int)), (11, ai v0)] [] [(96, some ⟨(0 : Nat), Ty.row, v1, some (0 : Nat), true⟩)])
noncomputable def value_Sorted_B3 : Code := sub (bodyOf Tryd.f16) [1, 1, 0, 1, 2, 2]
def value_Sorted_L3 : S Un → Option (EX Un) := loopF (N_value_Sorted 3) (fun s Q => awf M_value_Sorted N_value_Sorted value_Sorted_B3 s Q)
def value_Sorted_C3 : Exit → S Un → Option (RF Un) := ctxF M_value_Sorted N_value_Sorted (bodyOf Tryd.f16) [1, 1, 0, 1, 2] (retF M_value_Sorted Tryd.f16.results.toList [.d])
def value_Sorted_fn (l : List (List Val)) : Option (RF Un) := awf M_value_Sorted N_value_Sorted (bodyOf Tryd.f16) (entry Tryd.f16.ntmps 1 [.d (.v (.dat (U := Un) Ty.row l))]) (retF M_value_Sorted Tryd.f16.results.toList [.d])
theorem value_Sorted_in (l : List (List Val)) : value_Sorted_fn l =
 obO ((0 : Int) ≤ (0 : Int) ∧ (0 : Int) ≤ (↑l.length : Int) ∧ (↑l.length : Int).toNat * (24 : Nat) ≤ roomB)
  ((value_Sorted_L3 (value_Sorted_s3 l (0 : Int) ([]))).bind (thenX value_Sorted_C3)) := by kernel_rfl
theorem value_Sorted_l3 (l : List (List Val)) (v0 : Int) (v1 : List (List Val)) : value_Sorted_L3 (value_Sorted_s3 l v0 v1) =
 cndO (decide (v0 < (↑l.length : Int)))
  (obO (0 ≤ v0 ∧ v0 < (↑l.length : Int))
   (obO (List.length (l.getD v0.toNat []) ≤ (1000000000 : Nat))
    (obO ((v1.length + [l.getD v0.toNat []].length) * (24 : Nat) ≤ roomB)
     (value_Sorted_L3 (value_Sorted_s3 l (IntKind.i64.wrap (v0 + 1)) (v1 ++ [l.getD v0.toNat []]))))))
  (some (.exit 0, (value_Sorted_s3 l v0 v1))) := (loopF_eq (N_value_Sorted 3) value_Sorted_B3 _).trans (by kernel_rfl)
theorem value_Sorted_a3_x0 (l : List (List Val)) (v0 : Int) (v1 : List (List Val)) : value_Sorted_C3 (.exit 0) (value_Sorted_s3 l v0 v1) =
 obO (v1.length ≤ (1000000000 : Nat))
  (obO (V_value_Orders = fvo_L_val_L_val_to_i_i64 (po_L_val_L_val_to_i_i64 V_value_Orders) (pf_L_val_L_val_to_i_i64 V_value_Orders))
   (obO (∀ (x : Un.Den Ty.row), x ∈ v1 → ∀ (y : Un.Den Ty.row), y ∈ v1 → po_L_val_L_val_to_i_i64 V_value_Orders x y)
    (obO (Pre (leP (pf_L_val_L_val_to_i_i64 V_value_Orders)))
     (some (R_value_Sorted (sortS (leP (pf_L_val_L_val_to_i_i64 V_value_Orders)) v1)))))) := by kernel_rfl
theorem leP_pre {p : List Val → List Val → Int} (h : p = ordR) : Pre (leP p) := by
  subst h
  refine ⟨fun a b c h1 h2 => ?_, fun a b => ?_⟩
  · unfold leP at *
    simp only [Bool.not_eq_true', decide_eq_false_iff_not] at *
    have := ordR_swo.ntrans c b a (by simpa using h2) (by simpa using h1)
    simpa using this
  · unfold leP
    simp only [Bool.not_eq_true', decide_eq_false_iff_not]
    have := ordR_anti a b
    omega
def value_Sorted (l : List (List Val)) : List (List Val) := sortS (leP ordR) l
theorem value_Sorted_spec (l : List (List Val)) (_hl : WL .row l) (h : rowsOK l) : value_Sorted_fn l = some (R_value_Sorted (value_Sorted l)) := by
  obtain ⟨h1, h2⟩ := h
  obtain ⟨lp, _⟩ := loop_fold (e := .exit 0) (L := value_Sorted_L3) (st := fun (s : List (List Val)) i => value_Sorted_s3 l i s) (l := l) (d := []) (g := fun s x => s ++ [x]) (fun i s => s = l.take i) (by omega)
    (fun s i x hi hx hI => by
      have hi' : i < l.length := by omega
      have hxm : x ∈ l := by rw [← hx, List.getD_eq_getElem?_getD, List.getElem?_eq_getElem hi']; exact List.getElem_mem _
      have hI' : s = l.take i := hI
      have hsl : s.length = i := by rw [hI', List.length_take]; omega
      refine ⟨?_, ?_⟩
      · show s ++ [x] = l.take (i + 1)
        rw [hI', List.take_add_one, List.getElem?_eq_getElem hi', ← hx, List.getD_eq_getElem?_getD, List.getElem?_eq_getElem hi']; rfl
      rw [value_Sorted_l3]
      simp only [cndO_eq, hi, decide_true, if_true, and_true, Int.toNat_natCast, hx]
      rw [obO_pos (by omega), obO_pos (h2 x hxm), obO_pos (by unfold roomB; rw [List.length_singleton]; omega)])
    (fun s _ => by rw [value_Sorted_l3]; simp [cndO_eq]) [] (by simp)
  have e1 : l.foldl (fun s x => s ++ [x]) [] = l := by
    have := foldG_snoc (fun x : List Val => x) l []
    simpa using this
  rw [e1] at lp
  rw [value_Sorted_in, obO_pos (by unfold roomB; omega)]
  refine (loop_end lp).trans ?_
  have ep : pf_L_val_L_val_to_i_i64 V_value_Orders = ordR := by
    unfold V_value_Orders
    rw [pffvo_L_val_L_val_to_i_i64]; rfl
  have eo : ∀ x y, po_L_val_L_val_to_i_i64 V_value_Orders x y := fun x y => by
    unfold V_value_Orders
    rw [pofvo_L_val_L_val_to_i_i64]; trivial
  rw [value_Sorted_a3_x0, obO_pos (by omega), obO_pos (by unfold V_value_Orders; rw [pofvo_L_val_L_val_to_i_i64, pffvo_L_val_L_val_to_i_i64]), obO_pos (fun x _ y _ => eo x y), obO_pos (leP_pre ep), ep]
  rfl
def F_value_Sorted : FnC Un := fun args => match args with
  | [x0] => (dL .row x0).bind fun l => some ([rowsOK l], A_value_Sorted (value_Sorted l), O_value_Sorted (value_Sorted l))
  | _ => none
theorem ok_value_Sorted : FnOK 16 F_value_Sorted := by
  intro args ob rs os h hob
  unfold F_value_Sorted at h
  split at h
  · simp only [Option.bind_eq_some_iff, Option.some.injEq, Prod.mk.injEq] at h
    obtain ⟨l, e0, rfl, rfl, rfl⟩ := h
    obtain rfl := dL_eq e0
    exact ⟨fn_contractF (M := M_value_Sorted) rfl (tbl_ok (l1 := [(22, F_clone_row)]) (l2 := [(15, V_value_Orders)]) (l3 := []) (l4 := []) (l5 := [(25, U_stable_row)]) ⟨ok_clone_row, trivial⟩ ⟨okV_value_Orders, trivial⟩ trivial trivial ⟨okU_stable_row, trivial⟩) Tryd.func16 (by kernel_rfl) N_value_Sorted 1 [.d] (fun hwf => (value_Sorted_spec l (wfArg hwf (a := .d (.v (.dat (U := Un) Ty.row l))) (List.mem_of_getElem? (i := 0) rfl)) (hob _ (List.mem_of_getElem? (i := 0) rfl)))), hasBody_of Tryd.func16 (by kernel_rfl) (by kernel_rfl)⟩
  · simp at h
end
end Go.Proofs.YtfdnnfbbjiglcaaDoor.B
