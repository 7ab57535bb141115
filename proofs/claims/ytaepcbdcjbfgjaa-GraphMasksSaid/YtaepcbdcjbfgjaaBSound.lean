/- Code: what the abstract machine says of it is so in the model. -/
import Derived.Test.YtaepcbdcjbfgjaaBNorm
import Derived.LoopN
namespace Go.Proofs.Ytaepcbdcjbfgjaa.B
open Go Go.RowKit
variable {U : Uni} {P : Program} {M : Mc U} {fr : Fr}

/-- What is asked behind some code, in the machine and in the model. -/
def Post (P : Program) (M : Mc U) (fr : Fr) (Q : Exit → S U → Prop) (R : Exit → Act → World → Prop) : Prop :=
  ∀ e s g a w, Q e s → Sim P M.E fr g s a w → R e a w

theorem zip_what {ops : Array Oper} {l : List (Oper × Fp)} (hl : l.map (·.1) = ops.toList) : ∀ (i : Nat) (x : Oper × Fp), l[i]? = some x → ops[i]? = some x.1 ∧ (l.map (·.2))[i]? = some x.2 := by
  intro i x hx
  refine ⟨?_, by rw [List.getElem?_map, hx]; rfl⟩
  rw [← Array.getElem?_toList, ← hl, List.getElem?_map, hx]; rfl

theorem left_start {ops : Array Oper} {l : List (Oper × Fp)} (hl : l.map (·.1) = ops.toList) : Left ops (l.map (·.2)) (Array.replicate ops.size false) (l.zipIdx.map fun x => (x.2, x.1)) := by
  have hlen : l.length = ops.size := by rw [← Array.length_toList, ← hl]; simp
  refine ⟨by simp, ?_, ?_, ?_, ?_⟩
  · rw [List.pairwise_map]
    have : (l.zipIdx).Pairwise (fun x y => x.2 < y.2) := by
      rw [List.pairwise_iff_getElem]
      intro i j hi hj hij
      simp; exact hij
    exact this
  · intro x hx
    obtain ⟨y, hy, rfl⟩ := List.mem_map.1 hx
    obtain ⟨i, hi⟩ := List.getElem?_of_mem hy
    rw [List.getElem?_zipIdx] at hi
    cases hli : l[i]? with
    | none => rw [hli] at hi; simp at hi
    | some z =>
      rw [hli] at hi; simp at hi; subst hi
      exact zip_what hl i z hli
  · intro i hi
    have h1 : (Array.replicate ops.size false).getD i true = false := by
      rw [Array.getD_eq_getD_getElem?, Array.getElem?_replicate, if_pos hi]; rfl
    rw [h1]
    simp only [true_iff]
    have hil : i < l.length := by omega
    refine ⟨(i, l[i]), List.mem_map.2 ⟨(l[i], i), ?_, rfl⟩, rfl⟩
    refine List.mem_of_getElem? (i := i) ?_
    rw [List.getElem?_zipIdx, List.getElem?_eq_getElem hil]; simp
  · intro k hk
    rw [Array.getD_eq_getD_getElem?, Array.getElem?_replicate] at hk
    split at hk <;> simp at hk

theorem Sim.drawn {g : G} {s : S U} {a : Act} {w : World} (h : Sim P M.E fr g s a w) : Sim P M.E fr g s a { w with drawn := w.drawn + 1 } :=
  h.later ((Ext.refl w).drew)

theorem reg_sound (hT : TabOK P M) (hF : FnsOK P M) (hm : P.follows .mixedOrders = true) {id : Nat} {ops : Array Oper} {drawn : Bool} {R : Exit → Act → World → Prop} {K : S U → Prop} {g : G} {s : S U} {a : Act} {w : World} (h : Sim P M.E fr g s a w) (hw : awpReg M ops drawn s K)
    (hK : ∀ s' g' a' w', K s' → Sim P M.E fr g' s' a' w' → R .normal a' w') : (Code.region id ops drawn).wp P R a w := by
  unfold awpReg at hw
  obtain ⟨l, s', hl, hr, hk⟩ := run_of_awp _ _ _ _ hw
  cases drawn with
  | false =>
    dsimp only at hk
    refine wp_region ?_
    have hlen : l.length = ops.size := by rw [← Array.length_toList, ← hl]; simp
    rw [List.range_eq_range', ← hlen]
    exact run_sound hT hF (fun g' a' w' h' => hK s' g' a' w' hk h') l 0 (fun j => by rw [hl]; simp) h hr
  | true =>
    dsimp only at hk
    rw [List.append_nil, List.reverse_reverse] at hk
    unfold iff' at hk
    split at hk
    · rename_i hb
      simp only [Bool.and_eq_true] at hb
      refine wp_region_any hm ?_
      have hlen : l.length = ops.size := by rw [← Array.length_toList, ← hl]; simp
      refine any_sound hT hF (fun g' a' w' h' => hK s' g' a' w' hk h') hb.1 (fun i j fi fj hij h1 h2 hc => ?_) ops.size _ (l.zipIdx.map fun x => (x.2, x.1)) (by simp [hlen]) (left_start hl) h.drawn ?_
      · exact apartAll_spec (l.map (·.2)) [] 0 rfl hb.2 i j fi fj hij (Nat.zero_le _) (by simpa using h1) (by simpa using h2) hc
      · have : (l.zipIdx.map fun x => (x.2, x.1)).map (·.2) = l := by
          rw [List.map_map]
          apply List.ext_getElem?
          intro i
          rw [List.getElem?_map, List.getElem?_zipIdx]
          cases l[i]? <;> rfl
        rw [this]; exact hr
    · exact hk.elim

theorem awp_sound (hT : TabOK P M) (hF : FnsOK P M) (hm : P.follows .mixedOrders = true) (N : Nat → NS) : ∀ (c : Code) {Q : Exit → S U → Prop} {R : Exit → Act → World → Prop} {g : G} {s : S U} {a : Act} {w : World}, Post P M fr Q R → Sim P M.E fr g s a w → awp M N c s Q → c.wp P R a w
  | .skip, Q, R, g, s, a, w, hQ, h, hw => wp_skip (hQ _ _ _ _ _ hw h)
  | .region id ops drawn, Q, R, g, s, a, w, hQ, h, hw => reg_sound hT hF hm h hw fun s' g' a' w' hk h' => hQ _ _ _ _ _ hk h'
  | .seq x y, Q, R, g, s, a, w, hQ, h, hw => by
    refine wp_seq ?_
    refine awp_sound hT hF hm N x (Q := thenK (fun s' => awp M N y s' Q) Q) ?_ h hw
    intro e s1 g1 a1 w1 hq h1
    cases e with
    | normal => exact awp_sound hT hF hm N y hQ h1 hq
    | exit id => exact hQ _ _ _ _ _ hq h1
    | goto l => exact hQ _ _ _ _ _ hq h1
    | ret => exact hQ _ _ _ _ _ hq h1
    | panic ch => exact hQ _ _ _ _ _ hq h1
    | outgrown => exact hQ _ _ _ _ _ hq h1
  | .cond c x y, Q, R, g, s, a, w, hQ, h, hw => by
    simp only [awp] at hw
    split at hw
    · rename_i b hc
      have hcv : a.eval c = .bool b := (h.ev hF hc).1
      cases b with
      | true => exact wp_cond_true hcv (awp_sound hT hF hm N x hQ h hw)
      | false => exact wp_cond_false hcv (awp_sound hT hF hm N y hQ h hw)
    · exact hw.elim
  | .block id c, Q, R, g, s, a, w, hQ, h, hw => by
    refine wp_block ?_
    refine awp_sound hT hF hm N c (Q := blockK id Q) ?_ h hw
    intro e s1 g1 a1 w1 hq h1
    cases e with
    | exit id' =>
      simp only [blockK] at hq
      simp only [Exit.inBlock]
      split at hq
      · rename_i e; rw [if_pos e]; exact hQ _ _ _ _ _ hq h1
      · rename_i e; rw [if_neg e]; exact hQ _ _ _ _ _ hq h1
    | normal => exact hQ _ _ _ _ _ hq h1
    | goto l => exact hQ _ _ _ _ _ hq h1
    | ret => exact hQ _ _ _ _ _ hq h1
    | panic ch => exact hQ _ _ _ _ _ hq h1
    | outgrown => exact hQ _ _ _ _ _ hq h1
  | .loop c, Q, R, g, s, a, w, hQ, h, hw => by
    have nrm : ∀ {K : S U → Prop} {g : G} {s : S U} {a : Act} {w : World}, Sim P M.E fr g s a w → normK (N (lid c)) K s → ∃ g' s', Sim P M.E fr g' s' a w ∧ K s' := by
      intro K g s a w h hk
      unfold normK at hk
      split at hk
      · rename_i s1 hn
        obtain ⟨g1, hs1⟩ := h.norm hn
        exact ⟨g1, s1, hs1, hk⟩
      · exact hk.elim
    have hw' : normK (N (lid c)) (itersK (N (lid c)) (awp M N c) Q) s := hw
    obtain ⟨g0, s0, hs0, k, hk⟩ := nrm h hw'
    refine wp_loop_rounds k ?_
    have key : ∀ (k : Nat) {g : G} {s : S U} {a : Act} {w : World}, Sim P M.E fr g s a w → iterK (N (lid c)) (awp M N c) Q k s → Code.rounds P c R k a w := by
      intro k
      induction k with
      | zero => intro g s a w _ hk; exact hk.elim
      | succ k ih =>
        intro g s a w h hk
        simp only [iterK] at hk
        rw [rounds_succ]
        refine awp_sound hT hF hm N c (Q := roundK (N (lid c)) (iterK (N (lid c)) (awp M N c) Q k) Q) ?_ h hk
        intro e s2 g2 a2 w2 hq h2
        cases e with
        | normal => obtain ⟨g3, s3, h3, hq3⟩ := nrm h2 hq; exact ih h3 hq3
        | exit id => obtain ⟨g3, s3, h3, hq3⟩ := nrm h2 hq; exact hQ _ _ _ _ _ hq3 h3
        | goto l => obtain ⟨g3, s3, h3, hq3⟩ := nrm h2 hq; exact hQ _ _ _ _ _ hq3 h3
        | ret => obtain ⟨g3, s3, h3, hq3⟩ := nrm h2 hq; exact hQ _ _ _ _ _ hq3 h3
        | panic ch => obtain ⟨g3, s3, h3, hq3⟩ := nrm h2 hq; exact hQ _ _ _ _ _ hq3 h3
        | outgrown => obtain ⟨g3, s3, h3, hq3⟩ := nrm h2 hq; exact hQ _ _ _ _ _ hq3 h3
    exact key k hs0 hk
  | .exit id, Q, R, g, s, a, w, hQ, h, hw => wp_exit (hQ _ _ _ _ _ hw h)
  | .ret, Q, R, g, s, a, w, hQ, h, hw => wp_ret (hQ _ _ _ _ _ hw h)
  | .scope c, Q, R, g, s, a, w, hQ, h, hw => by simp [awp] at hw
  | .label l, Q, R, g, s, a, w, hQ, h, hw => by simp [awp] at hw
  | .goto l, Q, R, g, s, a, w, hQ, h, hw => by simp [awp] at hw
  | .refuse m, Q, R, g, s, a, w, hQ, h, hw => by simp [awp] at hw
end Go.Proofs.Ytaepcbdcjbfgjaa.B
