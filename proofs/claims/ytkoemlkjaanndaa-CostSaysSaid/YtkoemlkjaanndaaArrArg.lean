/- An argument that is an array of four ints. -/
import Derived.Test.YtkoemlkjaanndaaLawBase
namespace Go.Proofs.Ytkoemlkjaanndaa
open Go.RowKit Go.ChangeShapes

theorem trod_int_list {H : Type} {enc : TypeId × Value → H} {P : Program} {W : World} {t : TypeId} {fuel : Nat} {cs : List Value} {x : DataW H × List MemPlace}
    (ht : P.underlying t = some (.int .i64)) (h : DataW.trod enc P W 0 (fun _ => true) true fuel t cs = some x) : ∃ n, cs = [.int .i64 n] ∧ (Lit.int .i64 n).wf = true := by
  cases fuel with
  | zero => simp [DataW.trod] at h
  | succ f =>
    simp only [DataW.trod, ht] at h
    split at h <;> simp_all

theorem open_arr4 {H : Type} {enc : TypeId × Value → H} {P : Program} {W : World} {base : Nat} {t e : TypeId} {v : Value} {d : DataW H} {ps : List MemPlace}
    (ht : P.underlying t = some (.array 4 e)) (he : P.underlying e = some (.int .i64)) (hc : P.cellsOf e = 1) (hc4 : P.cellsOf t = 4)
    (hv : Value.okWide P W .any base t v) (h : DataW.Trod enc P W 0 (fun _ => true) true t v d ps) :
    ∃ a b c d, v = .agg #[.int .i64 a, .int .i64 b, .int .i64 c, .int .i64 d] ∧ (Lit.int .i64 a).wf = true ∧ (Lit.int .i64 b).wf = true ∧ (Lit.int .i64 c).wf = true ∧ (Lit.int .i64 d).wf = true := by
  simp only [Value.okWide, ht] at hv
  obtain ⟨cs, rfl, hsz, _⟩ := hv
  rw [hc4] at hsz
  obtain ⟨fuel, hf⟩ := h
  cases fuel with
  | zero => simp [DataW.trod] at hf
  | succ f =>
    obtain ⟨x0, x1, x2, x3, rfl⟩ : ∃ x0 x1 x2 x3, cs = #[x0, x1, x2, x3] := by
      obtain ⟨l⟩ := cs
      match l, hsz with
      | [x0, x1, x2, x3], _ => exact ⟨x0, x1, x2, x3, rfl⟩
    simp only [DataW.trod, ht, Value.cells, hc, hc4] at hf
    simp only [List.length_cons, List.length_nil, if_true, List.range_succ, List.range_zero, List.nil_append, List.cons_append, List.mapM_cons, List.mapM_nil] at hf
    simp only [Nat.mul_one, List.drop_zero, List.drop_succ_cons, List.take_succ_cons, List.take_zero] at hf
    cases h0 : DataW.trod enc P W 0 (fun _ => true) true f e [x0] with
    | none => simp [h0] at hf
    | some y0 =>
      cases h1 : DataW.trod enc P W 0 (fun _ => true) true f e [x1] with
      | none => simp [h0, h1] at hf
      | some y1 =>
        cases h2 : DataW.trod enc P W 0 (fun _ => true) true f e [x2] with
        | none => simp [h0, h1, h2] at hf
        | some y2 =>
          cases h3 : DataW.trod enc P W 0 (fun _ => true) true f e [x3] with
          | none => simp [h0, h1, h2, h3] at hf
          | some y3 =>
            obtain ⟨a, ea, wa⟩ := trod_int_list he h0
            obtain ⟨b, eb, wb⟩ := trod_int_list he h1
            obtain ⟨c, ec, wc⟩ := trod_int_list he h2
            obtain ⟨d, ed, wd⟩ := trod_int_list he h3
            simp at ea eb ec ed
            subst ea eb ec ed
            exact ⟨a, b, c, d, rfl, wa, wb, wc, wd⟩
end Go.Proofs.Ytkoemlkjaanndaa
