/- Parts of slices and of texts, lengths. -/
import Derived.Test.YtohpgnpjijpedaaBOps3
namespace Go.Proofs.Ytohpgnpjijpedaa.B
open Go Go.RowKit
variable {U : Uni} {P : Program} {M : Mc U} {fr : Fr} {w : World} {g : G} {s : S U} {a : Act} {o : Oper}

theorem sub_rel {E : Enc U} {St : Nat → Nat → Prop} {τ : U.Ty} {xs : List (U.Den τ)} {p : Option Addr} {cap l h m z : Nat} (hr : VRel E St w (.slice p xs.length cap) (.dat τ xs)) (hl : l ≤ h) (hh : h ≤ xs.length) (hm : h ≤ m) (hz : z = U.sz τ) :
    VRel E St w (.slice (if m = l then p else p.map (·.add (l * z))) (h - l) (m - l)) (.dat τ ((xs.take h).drop l)) := by
  subst hz
  have hlen : ((xs.take h).drop l).length = h - l := by simp; omega
  rcases Nat.lt_or_ge l h with h1 | h1
  · rcases hr.inv with ⟨rfl, _⟩ | ⟨b, o, cap', cv, hv, hcap, g1, g2⟩
    · simp at hh; omega
    · simp at hv; obtain ⟨rfl, rfl⟩ := hv
      rw [if_neg (by omega)]
      simp only [Option.map_some, add_none]
      rw [← hlen]
      refine .dat τ _ b _ _ (fun i j => cv (l + i) j) (by rw [hlen]; omega) (fun i j hi hj => ?_) (fun i hi j d hd => ?_)
      · rw [hlen] at hi
        have := g1 (l + i) j (by omega) hj
        rw [show o + l * U.sz τ + i * U.sz τ + j = o + (l + i) * U.sz τ + j from by rw [Nat.add_mul]; omega]; exact this
      · have hi' := hi
        rw [hlen] at hi'
        refine g2 (l + i) (by omega) j d ?_
        rw [List.getElem_drop, List.getElem_take] at hd; exact hd
  · have e1 : (xs.take h).drop l = [] := by apply List.eq_nil_of_length_eq_zero; rw [hlen]; omega
    rw [e1, show h - l = 0 from by omega]
    exact .nil τ _ _

theorem bndO_spec (hF : FnsOK P M) (h : Sim P M.E fr g s a w) {x : Option Operand} {l : Option Int} (hb : bndO s M x = some l) : (x = none ∧ l = none) ∨ ∃ y n k, x = some y ∧ l = some n ∧ a.eval y = .int k n := by
  cases x with
  | none => simp [bndO] at hb; exact .inl ⟨rfl, hb.symm⟩
  | some y =>
    right
    simp only [bndO] at hb
    split at hb
    · rename_i n hn
      simp at hb; subst hb
      unfold bnd at hn
      split at hn
      · rename_i k n' hv
        simp at hn; subst hn
        exact ⟨y, n', k, rfl, rfl, (h.ev hF hv).1⟩
      · simp at hn
    · simp at hb

theorem frz_lst {g : G} (h : Sim P M.E fr g s a w) {cx : C U} {τ : U.Ty} {xs : List (U.Den τ)} {v : Value} (hl : s.lst cx = some ⟨τ, xs⟩) (hv : CRel P M.E g s.ob w v cx) :
    ∃ g', Sim P M.E fr g' { s with ob := sets s.ob (s.frz cx.obs) } a w ∧ GLe g s.ob w g' (sets s.ob (s.frz cx.obs)) w ∧ VRel M.E g'.St w v (.dat τ xs) := by
  obtain ⟨g1, hs1, hg1, hf1, hfz⟩ := Sim.frzs cx.obs (s0 := s) rfl h (FrzLe.refl _)
  refine ⟨g1, hs1, hg1, ?_⟩
  refine hs1.frozenV (s0 := s) hf1 (fun q hq => hfz q (.inl hq)) ?_ (CRel.mono hg1 hv)
  cases cx with
  | sl τ' xs' f => simp [S.lst] at hl; obtain ⟨rfl, hl⟩ := hl; simp at hl; subst hl; rfl
  | ob k ver =>
    simp only [S.lst] at hl
    simp only [S.toV]
    split at hl
    · rename_i o' ho; simp at hl; obtain ⟨rfl, hl⟩ := hl; simp at hl; subst hl; rfl
    · simp at hl
  | _ => simp [S.lst] at hl

theorem slice_fin {g1 : G} {v : Value} {x : AV U} {ob : List Prop} {ks : List Nat} (hs1 : Sim P M.E fr g1 { s with ob := sets s.ob (s.frz ks) } a w) (hrun : (execOp a.eval o).run P w = .ok (.value v) w)
    (hv : AVRel P M.E g1 (sets s.ob (s.frz ks)) w v x) : Done P o a w (Goal P M fr s o ⟨ob, x, [], s.frz ks⟩) := by
  refine done_value hrun ⟨g1, ?_⟩
  exact Sim.put' (s' := s) (r := ⟨ob, x, [], s.frz ks⟩) hs1 hv

theorem bnd_none (hF : FnsOK P M) (h : Sim P M.E fr g s a w) {x : Option Operand} (hb : bndO s M x = some none) : x = none := by
  rcases bndO_spec hF h hb with ⟨e, _⟩ | ⟨_, _, _, _, e, _⟩
  · exact e
  · simp at e
theorem bnd_some (hF : FnsOK P M) (h : Sim P M.E fr g s a w) {x : Option Operand} {n : Int} (hb : bndO s M x = some (some n)) : ∃ y k, x = some y ∧ a.eval y = .int k n := by
  rcases bndO_spec hF h hb with ⟨_, e⟩ | ⟨y, n', k, e1, e2, e3⟩
  · simp at e
  · simp at e2; subst e2; exact ⟨y, k, e1, e3⟩

theorem ext_one {b : ByteArray} {i j : Nat} (h : oneC (.string b) = true) : oneC (.string (b.extract i j)) = true := by
  have := oneC_str.1 h
  exact oneC_str.2 (by rw [ByteArray.size_extract]; omega)

theorem slice_sound (hT : TabOK P M) (hF : FnsOK P M) (h : Sim P M.E fr g s a w) {t : TypeId} {x : Operand} {lo hi mx : Option Operand} {r : Res U} (ho : o.op = .slice t x lo hi mx) (he : eff M s o = some r) (hob : ∀ p ∈ r.ob, p) : Done P o a w (Goal P M fr s o r) := by
  simp only [eff, ho] at he
  split at he
  · rename_i xv l0 h0 m0 hx hbl hbh hbm
    unfold effSlice at he
    split at he
    · rename_i e τ₀ bytes cx hti
      split at he
      · rename_i τ xs hlst
        split at he
        · rename_i hsz
          obtain ⟨hu, _, i, z, hinf, his, _, _, _⟩ := sl_ti hT hti
          have hxr : CRel P M.E g s.ob w (a.eval x) cx := h.ev hF hx
          obtain ⟨p, cap, hxv, hcap, hmx⟩ := h.len hlst hxr
          have hbd : i.size = U.sz τ := his.trans hsz
          dsimp only at he
          split at he
          · simp at he; subst he
            have e1 := bnd_none hF h hbl; have e2 := bnd_none hF h hbh; have e3 := bnd_none hF h hbm
            subst e1 e2 e3
            refine pure_sound h (v := a.eval x) ?_ hxr
            have hb := run_sl (P := P) hu hinf p xs.length cap 0 xs.length none none none cap w (by simp [Instr.sliceBounds])
            simp only [execOp, ho, hxv, Option.map_none, Sem.run_bind, hb, Result.andThen_ok, Sem.run_pure, Nat.zero_mul, map_add_zero, Nat.sub_zero]
            congr 4; split <;> rfl
          · rename_i n
            simp at he; subst he
            obtain ⟨q1, q2⟩ := hob _ (List.mem_singleton.2 rfl)
            obtain ⟨y, k, rfl, hy⟩ := bnd_some hF h hbl; have e2 := bnd_none hF h hbh; have e3 := bnd_none hF h hbm
            subst e2 e3
            obtain ⟨g1, hs1, hg1, hV⟩ := frz_lst h hlst hxr
            have hb := run_sl (P := P) hu hinf p xs.length cap n.toNat xs.length (some (.int k n)) none none cap w (by simp [Instr.sliceBounds, run_sliceBound (P := P) q1 q2])
            rw [hxv] at hV
            have hsub := sub_rel (l := n.toNat) (h := xs.length) (m := cap) (z := i.size) hV (by omega) (Nat.le_refl _) hcap hbd
            rw [List.take_length] at hsub
            refine slice_fin hs1 (v := .slice (if cap = n.toNat then p else p.map (·.add (n.toNat * i.size))) (xs.length - n.toNat) (cap - n.toNat)) ?_ ⟨hsub, fun hfull => ?_⟩
            · simp only [execOp, ho, hxv, hy, Option.map_some, Option.map_none, Sem.run_bind, hb, Result.andThen_ok, Sem.run_pure]
            · cases cx with
              | sl τ' xs' f =>
                dsimp only at hfull
                simp [S.lst] at hlst; obtain ⟨rfl, hlst⟩ := hlst; simp at hlst; subst hlst
                obtain ⟨pa, na, e⟩ := hxr.2 hfull
                rw [hxv] at e; simp at e
                exact ⟨_, xs'.length - n.toNat, by rw [show cap = xs'.length from by omega]⟩
              | _ => simp at hfull
          · rename_i n
            simp at he; subst he
            obtain ⟨q1, q2⟩ := hob _ (List.mem_singleton.2 rfl)
            obtain ⟨y, k, rfl, hy⟩ := bnd_some hF h hbh; have e2 := bnd_none hF h hbl; have e3 := bnd_none hF h hbm
            subst e2 e3
            obtain ⟨g1, hs1, hg1, hV⟩ := frz_lst h hlst hxr
            have hb := run_sl (P := P) hu hinf p xs.length cap 0 n.toNat none (some (.int k n)) none cap w (by simp [Instr.sliceBounds, run_sliceBound (P := P) (y := cap) q1 (by omega)])
            rw [hxv] at hV
            have hsub := sub_rel (l := 0) (h := n.toNat) (m := cap) (z := i.size) hV (by omega) (by omega) (by omega) hbd
            rw [List.drop_zero] at hsub
            refine slice_fin hs1 (v := .slice (if cap = 0 then p else p.map (·.add (0 * i.size))) (n.toNat - 0) (cap - 0)) ?_ ⟨hsub, by simp⟩
            simp only [execOp, ho, hxv, hy, Option.map_some, Option.map_none, Sem.run_bind, hb, Result.andThen_ok, Sem.run_pure]
          · rename_i l hh
            simp at he; subst he
            obtain ⟨q1, q2, q3⟩ := hob _ (List.mem_singleton.2 rfl)
            obtain ⟨y, k, rfl, hy⟩ := bnd_some hF h hbl; obtain ⟨y', k', rfl, hy'⟩ := bnd_some hF h hbh; have e3 := bnd_none hF h hbm
            subst e3
            obtain ⟨g1, hs1, hg1, hV⟩ := frz_lst h hlst hxr
            have hb := run_sl (P := P) hu hinf p xs.length cap l.toNat hh.toNat (some (.int k l)) (some (.int k' hh)) none cap w (by
              simp [Instr.sliceBounds, run_sliceBound (P := P) (y := cap) (n := hh) (by omega) (by omega), run_sliceBound (P := P) (y := hh.toNat) (n := l) q1 (by omega)])
            rw [hxv] at hV
            have hsub := sub_rel (l := l.toNat) (h := hh.toNat) (m := cap) (z := i.size) hV (by omega) (by omega) (by omega) hbd
            refine slice_fin hs1 (v := .slice (if cap = l.toNat then p else p.map (·.add (l.toNat * i.size))) (hh.toNat - l.toNat) (cap - l.toNat)) ?_ ⟨hsub, by simp⟩
            simp only [execOp, ho, hxv, hy, hy', Option.map_some, Option.map_none, Sem.run_bind, hb, Result.andThen_ok, Sem.run_pure]
          · rename_i hh m
            simp at he; subst he
            obtain ⟨q1, q2, q3⟩ := hob _ (List.mem_singleton.2 rfl)
            subst q2
            have e2 := bnd_none hF h hbl; obtain ⟨y', k', rfl, hy'⟩ := bnd_some hF h hbh; obtain ⟨y2, k2, rfl, hy2⟩ := bnd_some hF h hbm
            subst e2
            obtain ⟨g1, hs1, hg1, hV⟩ := frz_lst h hlst hxr
            have hb := run_sl (P := P) hu hinf p xs.length cap 0 hh.toNat none (some (.int k' hh)) (some (.int k2 hh)) hh.toNat w (by
              simp [Instr.sliceBounds, run_sliceBound (P := P) (y := cap) (n := hh) (by omega) (by omega), run_sliceBound (P := P) (y := hh.toNat) (n := hh) q1 (by omega)])
            rw [hxv] at hV
            have hsub := sub_rel (l := 0) (h := hh.toNat) (m := hh.toNat) (z := i.size) hV (by omega) (by omega) (by omega) hbd
            rw [List.drop_zero] at hsub
            refine slice_fin hs1 (v := .slice (if hh.toNat = 0 then p else p.map (·.add (0 * i.size))) (hh.toNat - 0) (hh.toNat - 0)) ?_ ⟨hsub, fun _ => ⟨_, _, rfl⟩⟩
            simp only [execOp, ho, hxv, hy2, hy', Option.map_some, Option.map_none, Sem.run_bind, hb, Result.andThen_ok, Sem.run_pure]
          · rename_i l hh m
            simp at he; subst he
            obtain ⟨q1, q2, q3, q4⟩ := hob _ (List.mem_singleton.2 rfl)
            subst q3
            obtain ⟨y, k, rfl, hy⟩ := bnd_some hF h hbl; obtain ⟨y', k', rfl, hy'⟩ := bnd_some hF h hbh; obtain ⟨y2, k2, rfl, hy2⟩ := bnd_some hF h hbm
            obtain ⟨g1, hs1, hg1, hV⟩ := frz_lst h hlst hxr
            have hb := run_sl (P := P) hu hinf p xs.length cap l.toNat hh.toNat (some (.int k l)) (some (.int k' hh)) (some (.int k2 hh)) hh.toNat w (by
              simp [Instr.sliceBounds, run_sliceBound (P := P) (y := cap) (n := hh) (by omega) (by omega), run_sliceBound (P := P) (y := hh.toNat) (n := hh) (by omega) (by omega), run_sliceBound (P := P) (y := hh.toNat) (n := l) q1 (by omega)])
            rw [hxv] at hV
            have hsub := sub_rel (l := l.toNat) (h := hh.toNat) (m := hh.toNat) (z := i.size) hV (by omega) (by omega) (by omega) hbd
            refine slice_fin hs1 (v := .slice (if hh.toNat = l.toNat then p else p.map (·.add (l.toNat * i.size))) (hh.toNat - l.toNat) (hh.toNat - l.toNat)) ?_ ⟨hsub, fun _ => ⟨_, _, rfl⟩⟩
            simp only [execOp, ho, hxv, hy, hy2, hy', Option.map_some, Option.map_none, Sem.run_bind, hb, Result.andThen_ok, Sem.run_pure]
          · simp at he
        · simp at he
      · simp at he
    · rename_i b hti
      have hu : P.underlying t = some .string := by have := (hT.ti t).2; rw [hti] at this; exact this
      have hxv : a.eval x = .string b := (h.ev hF hx).1
      split at he
      · rw [ok_eq he]
        have e1 := bnd_none hF h hbl; have e2 := bnd_none hF h hbh; have e3 := bnd_none hF h hbm
        subst e1 e2 e3
        refine pure_sound h (v := .string b) ?_ ⟨rfl, (h.ev hF hx).2⟩
        simp [execOp, ho, hxv, Instr.sliceAt, Instr.slice, run_underlying hu, Instr.sliceBounds]
      · rename_i n
        simp at he; subst he
        obtain ⟨q1, q2⟩ := hob _ (List.mem_singleton.2 rfl)
        obtain ⟨y, k, rfl, hy⟩ := bnd_some hF h hbl; have e2 := bnd_none hF h hbh; have e3 := bnd_none hF h hbm
        subst e2 e3
        refine pure_sound h (v := .string (b.extract n.toNat b.size)) ?_ ⟨rfl, ext_one (h.ev hF hx).2⟩
        simp [execOp, ho, hxv, hy, Instr.sliceAt, Instr.slice, run_underlying hu, Instr.sliceBounds, run_sliceBound (P := P) q1 q2]
      · rename_i n
        simp at he; subst he
        obtain ⟨q1, q2⟩ := hob _ (List.mem_singleton.2 rfl)
        obtain ⟨y, k, rfl, hy⟩ := bnd_some hF h hbh; have e2 := bnd_none hF h hbl; have e3 := bnd_none hF h hbm
        subst e2 e3
        refine pure_sound h (v := .string (b.extract 0 n.toNat)) ?_ ⟨rfl, ext_one (h.ev hF hx).2⟩
        simp [execOp, ho, hxv, hy, Instr.sliceAt, Instr.slice, run_underlying hu, Instr.sliceBounds, run_sliceBound (P := P) q1 q2]
      · rename_i l hh
        simp at he; subst he
        obtain ⟨q1, q2, q3⟩ := hob _ (List.mem_singleton.2 rfl)
        obtain ⟨y, k, rfl, hy⟩ := bnd_some hF h hbl; obtain ⟨y', k', rfl, hy'⟩ := bnd_some hF h hbh; have e3 := bnd_none hF h hbm
        subst e3
        refine pure_sound h (v := .string (b.extract l.toNat hh.toNat)) ?_ ⟨rfl, ext_one (h.ev hF hx).2⟩
        simp [execOp, ho, hxv, hy, hy', Instr.sliceAt, Instr.slice, run_underlying hu, Instr.sliceBounds, run_sliceBound (P := P) (y := b.size) (n := hh) (by omega) (by omega), run_sliceBound (P := P) (y := hh.toNat) (n := l) q1 (by omega)]
      · simp at he
    · simp at he
  · simp at he

theorem arr_of {α : Type} {x : Array α} {l : List α} (h : x.toList = l) : x = l.toArray := by subst h; simp

theorem len_sound (hT : TabOK P M) (hF : FnsOK P M) (h : Sim P M.E fr g s a w) {c : Call} {r : Res U} (ho : o.op = .call c) (hc : c.callee = .builtin .len) (he : effBuiltin s M o .len c = some r) : Done P o a w (Goal P M fr s o r) := by
  unfold effBuiltin at he
  dsimp only at he
  split at he
  · rename_i x t hx ht
    have ex := arr_of hx
    have et := arr_of ht
    split at he
    · rename_i b hxv hti
      rw [ok_eq he]
      have hu : P.underlying t = some .string := by have := (hT.ti t).2; rw [hti] at this; exact this
      have hv : a.eval x = .string b := (h.ev hF hxv).1
      refine pure_sound h (v := .int .i64 (b.size : Nat)) ?_ ⟨rfl, oneC_i64.2 (by have := oneC_str.1 (h.ev hF hxv).2; omega)⟩
      simp [execOp, ho, resolve, hc, invoke, builtin, Builtin.len_, ex, et, run_underlying hu, hv, goInt]
    · rename_i cx e τ₀ bytes hxv hti
      split at he
      · rename_i τ xs hl
        rw [ok_eq he]
        obtain ⟨hu, _⟩ := sl_ti hT hti
        have hxr : CRel P M.E g s.ob w (a.eval x) cx := h.ev hF hxv
        obtain ⟨p, cap, hp, _, hmx⟩ := h.len hl hxr
        refine pure_sound h (v := .int .i64 (xs.length : Nat)) ?_ ⟨rfl, oneC_i64.2 (by omega)⟩
        simp [execOp, ho, resolve, hc, invoke, builtin, Builtin.len_, ex, et, run_underlying hu, hp, goInt]
      · simp at he
    · simp at he
  · simp at he
end Go.Proofs.Ytohpgnpjijpedaa.B
