/- More operations: numbers, texts, addresses of fields and elements, parts of slices. -/
import Derived.Test.YtohpgnpjijpedaaBOps
namespace Go.Proofs.Ytohpgnpjijpedaa.B
open Go Go.RowKit
variable {U : Uni} {P : Program} {M : Mc U} {fr : Fr} {w : World} {g : G} {s : S U} {a : Act} {o : Oper}

theorem sbin_run {op : BinOp} {x y v : Value} {ob : List Prop} (h : sbin op x y = some (ob, v)) (hob : ∀ p ∈ ob, p) (t : TypeId) (xo yo : Operand) (w : World) :
    (do eqGuard op t xo yo x y; binOp op t x y : Sem Value).run P w = .ok v w := by
  unfold sbin at h
  split at h
  · rename_i k n k' m
    cases op with
    | shl =>
      simp only [Option.some.injEq, Prod.mk.injEq] at h; obtain ⟨rfl, rfl⟩ := h; have := hob _ (List.mem_singleton.2 rfl)
      simp only [eqGuard, binOp, Op.shift, Sem.run_bind]; simp only [this, if_false]; simp
    | shr =>
      simp only [Option.some.injEq, Prod.mk.injEq] at h; obtain ⟨rfl, rfl⟩ := h; have := hob _ (List.mem_singleton.2 rfl)
      simp only [eqGuard, binOp, Op.shift, Sem.run_bind]; simp only [this, if_false]; simp
    | quo =>
      simp at h; obtain ⟨rfl, rfl, rfl⟩ := h; have := hob _ (List.mem_singleton.2 rfl)
      simp [eqGuard, binOp, Op.intDiv, this]
    | rem =>
      simp at h; obtain ⟨rfl, rfl, rfl⟩ := h; have := hob _ (List.mem_singleton.2 rfl)
      simp [eqGuard, binOp, Op.intDiv, this]
    | add => simp at h; obtain ⟨rfl, rfl, rfl⟩ := h; simp [eqGuard, binOp, Op.intArith]
    | sub => simp at h; obtain ⟨rfl, rfl, rfl⟩ := h; simp [eqGuard, binOp, Op.intArith]
    | mul => simp at h; obtain ⟨rfl, rfl, rfl⟩ := h; simp [eqGuard, binOp, Op.intArith]
    | eql => simp at h; obtain ⟨rfl, rfl, rfl⟩ := h; simp [eqGuard, binOp, Op.intCmp]
    | neq => simp at h; obtain ⟨rfl, rfl, rfl⟩ := h; simp [eqGuard, binOp, Op.intCmp]
    | lss => simp at h; obtain ⟨rfl, rfl, rfl⟩ := h; simp [eqGuard, binOp, Op.intCmp]
    | leq => simp at h; obtain ⟨rfl, rfl, rfl⟩ := h; simp [eqGuard, binOp, Op.intCmp]
    | gtr => simp at h; obtain ⟨rfl, rfl, rfl⟩ := h; simp [eqGuard, binOp, Op.intCmp]
    | geq => simp at h; obtain ⟨rfl, rfl, rfl⟩ := h; simp [eqGuard, binOp, Op.intCmp]
    | and => simp at h; obtain ⟨rfl, rfl, rfl⟩ := h; simp [eqGuard, binOp, Op.intBits]
    | or => simp at h; obtain ⟨rfl, rfl, rfl⟩ := h; simp [eqGuard, binOp, Op.intBits]
    | andNot => simp at h; obtain ⟨rfl, rfl, rfl⟩ := h; simp [eqGuard, binOp, Op.intBits]
    | xor => simp at h; obtain ⟨rfl, rfl, rfl⟩ := h; simp [eqGuard, binOp, Op.intBits]
  · rename_i x y
    cases op <;> first
      | (simp at h; done)
      | (simp at h; obtain ⟨rfl, rfl⟩ := h; have hb : x.size + y.size ≤ 9223372036854775807 := hob _ (List.mem_singleton.2 rfl); have hb3 : (x.size : Int) + (y.size : Int) ≤ 9223372036854775807 := (by omega); simp [eqGuard, binOp, Op.stringOp]; exact hb3)
      | (simp at h; obtain ⟨rfl, rfl⟩ := h; simp [eqGuard, binOp, Op.stringOp])
  · simp at h

theorem fdiv_pow_bounds {a : Int} {n : Nat} {lo hi : Int} (h1 : lo ≤ a) (h2 : a ≤ hi) (h3 : lo ≤ 0) (h4 : 0 ≤ hi) : lo ≤ a.fdiv (2 ^ n) ∧ a.fdiv (2 ^ n) ≤ hi := by
  have hp : (0 : Int) < 2 ^ n := Int.pow_pos (by decide)
  rw [Int.fdiv_eq_ediv_of_nonneg _ (Int.le_of_lt hp)]
  rcases Int.lt_or_le a 0 with h | h
  · refine ⟨?_, ?_⟩
    · have h5 : a ≤ a / 2 ^ n := by
        rw [Int.le_ediv_iff_mul_le hp]
        have : a * 2 ^ n ≤ a * 1 := Int.mul_le_mul_of_nonpos_left (by omega) (by omega)
        omega
      omega
    · have : a / 2 ^ n < 0 := Int.ediv_neg_of_neg_of_pos h hp
      omega
  · have h5 : 0 ≤ a / 2 ^ n := Int.ediv_nonneg h (Int.le_of_lt hp)
    have h6 : a / 2 ^ n ≤ a := Int.ediv_le_self _ h
    omega
theorem kmin_le (k : IntKind) : k.min ≤ 0 ∧ 0 ≤ k.max := by cases k <;> decide
theorem tmod_bounds {a b lo hi : Int} (h1 : lo ≤ a) (h2 : a ≤ hi) (h3 : lo ≤ 0) (h4 : 0 ≤ hi) : lo ≤ a.tmod b ∧ a.tmod b ≤ hi := by
  rcases Int.le_total 0 a with h | h
  · have h5 := Int.tmod_nonneg b h
    have h6 : a.tmod b ≤ a := by
      have : a.tmod b = ((a.natAbs % b.natAbs : Nat) : Int) := by rw [← Int.natAbs_tmod]; omega
      have h7 := Nat.mod_le a.natAbs b.natAbs
      omega
    omega
  · have e : a.tmod b = -((-a).tmod b) := by rw [Int.neg_tmod]; omega
    have h0 : 0 ≤ -a := by omega
    have h5 := Int.tmod_nonneg b h0
    have h6 : (-a).tmod b ≤ -a := by
      have : (-a).tmod b = (((-a).natAbs % b.natAbs : Nat) : Int) := by rw [← Int.natAbs_tmod]; omega
      have h7 := Nat.mod_le (-a).natAbs b.natAbs
      omega
    omega
theorem sbin_one {op : BinOp} {x y v : Value} {ob : List Prop} (hb : sbin op x y = some (ob, v)) (hob : ∀ p ∈ ob, p) (hx : oneC x = true) (hy : oneC y = true) : oneC v = true := by
  unfold sbin at hb
  split at hb
  · rename_i k a k' b
    have h1 := oneC_int.1 hx
    cases op <;> simp at hb <;> first
      | (obtain ⟨_, _, rfl⟩ := hb; exact oneC_wrap _ _)
      | (obtain ⟨_, rfl⟩ := hb; exact oneC_wrap _ _)
      | (obtain ⟨_, _, rfl⟩ := hb; rfl)
      | (obtain ⟨_, rfl⟩ := hb; rfl)
      | (obtain ⟨_, _, rfl⟩ := hb; exact oneC_int.2 (tmod_bounds h1.1 h1.2 (kmin_le _).1 (kmin_le _).2))
      | (obtain ⟨_, rfl⟩ := hb; exact oneC_int.2 (fdiv_pow_bounds h1.1 h1.2 (kmin_le _).1 (kmin_le _).2))
  · cases op <;> simp at hb <;> first | (obtain ⟨_, _, rfl⟩ := hb; rfl) | (obtain ⟨_, rfl⟩ := hb; rfl) | (obtain ⟨rfl, rfl⟩ := hb; have h3 := hob _ (List.mem_singleton.2 rfl); exact oneC_str.2 (by rw [ByteArray.size_append]; exact h3))
  · simp at hb

theorem run_equalIn_bool (d : Nat) {t : TypeId} (ht : P.underlying t = some .bool) (x y : Bool) (w : World) : (Op.equalIn (d + 1) t (.bool x) (.bool y)).run P w = .ok (x == y) w := by
  simp [Op.equalIn, run_underlying ht]
theorem run_eql_bool {t : TypeId} (ht : P.underlying t = some .bool) (x y : Bool) (w : World) : (Op.equal t (.bool x) (.bool y)).run P w = .ok (x == y) w := by
  exact run_equalIn_bool 9999 ht x y w

theorem binOp_sound (hT : TabOK P M) (hF : FnsOK P M) (h : Sim P M.E fr g s a w) {op : BinOp} {t t' : TypeId} {x y : Operand} {r : Res U} (ho : o.op = .binOp op t x y t') (he : eff M s o = some r) (hob : ∀ p ∈ r.ob, p) : Done P o a w (Goal P M fr s o r) := by
  simp only [eff, ho] at he
  split at he
  · rename_i p q hx hy
    have hxv : a.eval x = .bool p := (h.ev hF hx).1
    have hyv : a.eval y = .bool q := (h.ev hF hy).1
    split at he
    · rename_i hti
      rw [ok_eq he]
      have hu : P.underlying t = some .bool := by have := (hT.ti t).2; rw [hti] at this; exact this
      exact pure_sound h (v := .bool (p == q)) (by simp [execOp, ho, hxv, hyv, eqGuard, binOp, run_eql_bool hu]) ⟨rfl, rfl⟩
    · rename_i hti
      rw [ok_eq he]
      have hu : P.underlying t = some .bool := by have := (hT.ti t).2; rw [hti] at this; exact this
      exact pure_sound h (v := .bool (!(p == q))) (by simp [execOp, ho, hxv, hyv, eqGuard, binOp, run_eql_bool hu]) ⟨rfl, rfl⟩
    · simp at he
  · rename_i p q hne hx hy
    have hxv : a.eval x = p := (h.ev hF hx).1
    have hyv : a.eval y = q := (h.ev hF hy).1
    split at he
    · rename_i ob v hb
      simp at he; subst he
      have hv : oneC v = true := sbin_one hb hob (h.ev hF hx).2 (h.ev hF hy).2
      refine pure_sound h (v := v) ?_ ⟨rfl, hv⟩
      have hr := sbin_run (P := P) hb hob t x y w
      simp only [execOp, ho, hxv, hyv]
      rw [Sem.run_bind, hr]; rfl
    · simp at he
  · simp at he

theorem unOp_sound (hF : FnsOK P M) (h : Sim P M.E fr g s a w) {op : UnOp} {t : TypeId} {x : Operand} {r : Res U} (ho : o.op = .unOp op t x) (he : eff M s o = some r) : Done P o a w (Goal P M fr s o r) := by
  simp only [eff, ho] at he
  split at he
  · rename_i b hx
    have hxv : a.eval x = .bool b := (h.ev hF hx).1
    rw [ok_eq he]
    exact pure_sound h (v := .bool (!b)) (by simp [execOp, ho, hxv, Op.unary]) ⟨rfl, rfl⟩
  · rename_i k n hx
    have hxv : a.eval x = .int k n := (h.ev hF hx).1
    rw [ok_eq he]
    exact pure_sound h (v := .int k (k.wrap (0 - n))) (by simp [execOp, ho, hxv, Op.unary, Op.intArith]) ⟨rfl, oneC_wrap _ _⟩
  · simp at he

theorem convert_sound (hT : TabOK P M) (hF : FnsOK P M) (h : Sim P M.E fr g s a w) {src dst : TypeId} {x : Operand} {r : Res U} (ho : o.op = .convert src dst x) (he : eff M s o = some r) : Done P o a w (Goal P M fr s o r) := by
  simp only [eff, ho] at he
  split at he
  · rename_i k0 k k1 n h1 h2 hx
    have hxv : a.eval x = .int k1 n := (h.ev hF hx).1
    rw [ok_eq he]
    have u1 : P.underlying src = some (.int k0) := by have := (hT.ti src).2; rw [h1] at this; exact this
    have u2 : P.underlying dst = some (.int k) := by have := (hT.ti dst).2; rw [h2] at this; exact this
    exact pure_sound h (v := .int k (k.wrap n)) (by simp [execOp, ho, hxv, convert, run_underlying u1, run_underlying u2, Conv.intToInt]) ⟨rfl, oneC_wrap _ _⟩
  · simp at he

theorem nilCheck_sound (hF : FnsOK P M) (h : Sim P M.E fr g s a w) {x : Operand} {r : Res U} (ho : o.op = .nilCheck x) (he : eff M s o = some r) : Done P o a w (Goal P M fr s o r) := by
  simp only [eff, ho] at he
  split at he
  · rename_i k off hx
    have hxv : CRel P M.E g s.ob w (a.eval x) (.bx k off) := h.ev hF hx
    rw [ok_eq he]
    exact pure_sound h (v := a.eval x) (by rw [hxv.2]; simp [execOp, ho, hxv.2]) hxv
  · rename_i τ xs i off hx
    have hxv : CRel P M.E g s.ob w (a.eval x) (.el τ xs i off) := h.ev hF hx
    rw [ok_eq he]
    obtain ⟨_, b, o', cap, e, _⟩ := hxv
    exact pure_sound h (v := a.eval x) (by rw [e]; simp [execOp, ho, e]) (h.ev hF hx)
  · rename_i k v i off hx
    split at he
    · rename_i o' ho'
      have hxv : CRel P M.E g s.ob w (a.eval x) (.em k v i off) := h.ev hF hx
      rw [ok_eq he]
      obtain ⟨h1, h2⟩ := obAt_eq ho'
      obtain ⟨_, o2, h3, _, h5⟩ := hxv
      rw [h1] at h3; simp at h3; subst h3
      obtain ⟨_, b, off', _, e⟩ := h5 h2.symm
      exact pure_sound h (v := a.eval x) (by rw [e]; simp [execOp, ho, e]) (h.ev hF hx)
    · simp at he
  · rename_i φ hx
    have hxv : CRel P M.E g s.ob w (a.eval x) (.fv φ) := h.ev hF hx
    rw [ok_eq he]
    obtain ⟨f, caps, e, _⟩ := hxv
    exact pure_sound h (v := a.eval x) (by rw [e]; simp [execOp, ho, e]) (h.ev hF hx)
  · simp at he

theorem extract_sound (hF : FnsOK P M) (h : Sim P M.E fr g s a w) {x : Operand} {j : Nat} {r : Res U} (ho : o.op = .extract x j) (he : eff M s o = some r) : Done P o a w (Goal P M fr s o r) := by
  simp only [eff, ho] at he
  split at he
  · rename_i al hx
    obtain ⟨arr, e, hr⟩ : AVRel P M.E g s.ob w (a.eval x) (.tup al) := h.ev hF hx
    split at he
    · rename_i y hy
      rw [ok_eq he]
      obtain ⟨v, hv, hry⟩ := hr.get j hy
      rw [Array.getElem?_toList] at hv
      exact pure_sound h (v := v) (by simp [execOp, ho, e, Instr.extract, hv]) hry
    · simp at he
  · simp at he

theorem move_rel {E : Enc U} {p q : C U} {d : Nat} {v : Value} (hm : s.move d p = some q) (h : CRel P E g s.ob w v p) : ∃ b o, v = .pointer (some ⟨b, o, none⟩) ∧ CRel P E g s.ob w (.pointer (some ⟨b, o + d, none⟩)) q := by
  cases p with
  | bx k off => simp [S.move] at hm; subst hm; exact ⟨_, _, h.2, h.1, rfl⟩
  | el τ xs i off =>
    simp [S.move] at hm; subst hm
    obtain ⟨h1, b, o', cap, e, h2⟩ := h
    exact ⟨b, _, e, h1, b, o', cap, by rw [Nat.add_assoc], h2⟩
  | em k ver i off =>
    simp only [S.move] at hm
    split at hm
    · rename_i o' ho
      simp at hm; subst hm
      obtain ⟨h1, h2⟩ := obAt_eq ho
      obtain ⟨_, o2, h3, h4, h5⟩ := h
      rw [h1] at h3; simp at h3; subst h3
      obtain ⟨hi, b, off', e, hv⟩ := h5 h2.symm
      exact ⟨b, _, hv, rfl, o', h1, h4, fun _ => ⟨hi, b, off', e, by rw [Nat.add_assoc]⟩⟩
    · simp at hm
  | _ => simp [S.move] at hm

theorem fieldAddr_sound (hT : TabOK P M) (hF : FnsOK P M) (h : Sim P M.E fr g s a w) {t : TypeId} {x : Operand} {f : Nat} {r : Res U} (ho : o.op = .fieldAddr t x f) (he : eff M s o = some r) : Done P o a w (Goal P M fr s o r) := by
  simp only [eff, ho] at he
  split at he
  · rename_i p fs n hx hti
    split at he
    · rename_i d hd
      split at he
      · rename_i q hq
        rw [ok_eq he]
        have hp : CRel P M.E g s.ob w (a.eval x) p := h.ev hF hx
        obtain ⟨b, off, e, hrel⟩ := move_rel hq hp
        obtain ⟨fl, hu, _, hfl⟩ : ∃ fl, P.underlying t = some (.struct fl) ∧ fl.size = fs.length ∧ ∀ (f : Nat) d, fs[f]? = some d → ∃ fd, fl[f]? = some fd ∧ fd.offset = d.1 ∧ 0 < d.2.1 ∧ Shp P fd.type d.2.2 d.2.1 := by
          have := (hT.ti t).2; rw [hti] at this; exact this
        obtain ⟨fd, i1, i2, i3, i4⟩ := hfl f d hd
        refine pure_sound h (v := .pointer (some ⟨b, off + d.1, none⟩)) ?_ hrel
        simp [execOp, ho, e, Instr.fieldAt, run_underlying hu, i1, Instr.sureAddr, fieldPlace, run_sizeOf i4, Nat.ne_of_gt i3, i2, add_none]
      · simp at he
    · simp at he
  · simp at he

theorem field_sound (hT : TabOK P M) (hF : FnsOK P M) (h : Sim P M.E fr g s a w) {t : TypeId} {x : Operand} {f : Nat} {r : Res U} (ho : o.op = .field t x f) (he : eff M s o = some r) : Done P o a w (Goal P M fr s o r) := by
  simp only [eff, ho] at he
  split at he
  · rename_i cs fs n hx hti
    split at he
    · rename_i d hd
      split at he
      · rename_i hl
        obtain ⟨y, hm, rfl⟩ := okR_eq he
        · 
          obtain ⟨arr, e, hr⟩ : AVRel P M.E g s.ob w (a.eval x) (.one (.agg cs)) := h.ev hF hx
          obtain ⟨fl, hu, _, hfl⟩ : ∃ fl, P.underlying t = some (.struct fl) ∧ fl.size = fs.length ∧ ∀ (f : Nat) d, fs[f]? = some d → ∃ fd, fl[f]? = some fd ∧ fd.offset = d.1 ∧ 0 < d.2.1 ∧ Shp P fd.type d.2.2 d.2.1 := by
            have := (hT.ti t).2; rw [hti] at this; exact this
          obtain ⟨fd, i1, i2, i3, i4⟩ := hfl f d hd
          have hmk := mkAV_rel hm ((hr.drop d.1).take d.2.1)
          have hlen := hr.length
          cases hag : d.2.2 with
          | true =>
            rw [hag] at hmk i4
            refine pure_sound h (v := .agg ((arr.toList.drop d.1).take d.2.1).toArray) ?_ (hmk.1 rfl)
            have hex : arr.extract d.1 (d.1 + d.2.1) = ((arr.toList.drop d.1).take d.2.1).toArray := by
              apply Array.ext'; simp [Array.toList_extract, List.extract_eq_take_drop]
            simp only [execOp, ho, e, Instr.field, Sem.run_bind, run_underlying hu, Result.andThen_ok, i1, asAgg, part, run_isAgg i4, run_sizeOf i4, if_true, i2, Sem.run_pure]
            rw [hex]
          | false =>
            rw [hag] at hmk i4
            obtain ⟨v, hv, hrel⟩ := hmk.2 rfl
            refine pure_sound h (v := v) ?_ hrel
            have hc : arr[d.1]? = some v := by
              have := congrArg (fun l => l[0]?) hv
              simp only [List.getElem?_take_of_lt i3, List.getElem?_drop, Nat.add_zero, List.getElem?_cons_zero] at this
              rw [Array.getElem?_toList] at this; exact this
            simp [execOp, ho, e, Instr.field, run_underlying hu, i1, asAgg, part, run_isAgg i4, i2, hc]
      · simp at he
    · simp at he
  · simp at he
end Go.Proofs.Ytohpgnpjijpedaa.B
