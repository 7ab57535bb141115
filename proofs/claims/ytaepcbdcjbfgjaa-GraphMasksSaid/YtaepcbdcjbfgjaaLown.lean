/- Slices of a call's own, out of the library's contracts; slices.Clone at any element. -/
import Derived.Test.YtaepcbdcjbfgjaaBAwf
import Derived.Shelf.SlicesE.Clone
namespace Go.Proofs.Ytaepcbdcjbfgjaa.B
open Go Go.RowKit Go.Shelf
set_option maxRecDepth 1000000

/-- Rows of cells one behind another. -/
def rowsOf (n z : Nat) (cv : Nat → Nat → Value) : List Value := (List.range (n * z)).map fun q => cv (q / z) (q % z)
theorem rowsOf_len (n z : Nat) (cv : Nat → Nat → Value) : (rowsOf n z cv).length = n * z := by simp [rowsOf]
theorem rowsOf_get {n z : Nat} {cv : Nat → Nat → Value} (hz : 0 < z) {i j : Nat} (hi : i < n) (hj : j < z) : (rowsOf n z cv)[i * z + j]? = some (cv i j) := by
  have h : i * z + j < n * z := by
    have : (i + 1) * z ≤ n * z := Nat.mul_le_mul_right _ hi
    rw [Nat.add_mul] at this; omega
  unfold rowsOf
  rw [List.getElem?_map, List.getElem?_range h]
  simp only [Option.map_some]
  rw [show (i * z + j) / z = i by rw [Nat.mul_comm, Nat.mul_add_div hz, Nat.div_eq_of_lt hj]; omega, show (i * z + j) % z = j by rw [Nat.mul_comm, Nat.mul_add_mod, Nat.mod_eq_of_lt hj]]
theorem rowsOf_inv {n z : Nat} {cv : Nat → Nat → Value} {q : Nat} {u : Value} (h : (rowsOf n z cv)[q]? = some u) : ∃ i j, i < n ∧ j < z ∧ q = i * z + j ∧ u = cv i j := by
  have hq : q < n * z := by have := (List.getElem?_eq_some_iff.1 h).1; rwa [rowsOf_len] at this
  have hz : 0 < z := by rcases Nat.eq_zero_or_pos z with e | e; · subst e; omega
                        · exact e
  refine ⟨q / z, q % z, (Nat.div_lt_iff_lt_mul hz).2 hq, Nat.mod_lt _ hz, by rw [Nat.mul_comm]; exact (Nat.div_add_mod q z).symm, ?_⟩
  unfold rowsOf at h
  rw [List.getElem?_map, List.getElem?_range hq] at h
  simpa using h.symm

open Classical in
/-- A row of a call's own is an object of it, all its cells the caller's from now on. -/
theorem ret_own {St : Nat → Nat → Prop} {w w' : World} {v : Value} {e : TypeId} {τ : Ty} {xs : List (Den τ)} {news : List Value} (hext : Ext w w') (hbd : ∀ b o, St b o → b < w.heap.size) (hlen : xs.length ≤ 9223372036854775807)
    (hrow : w'.ownsRow w.heap.size e (sz τ) v xs.length news) (hrel : ∀ i (hi : i < xs.length) j d, (enc τ xs[i])[j]? = some d → ∃ u, news[i * sz τ + j]? = some u ∧ VRel En St w u d) :
    Ret Try.prog En St w w' v [.c (.ob 0 0)] [⟨0, τ, xs, some 0, true⟩] := by
  refine ⟨hext, ?_⟩
  obtain ⟨hnl, ⟨rfl, hn0⟩ | ⟨gb, cap, cur, rfl, hge, hheap, hcap, hmax, hsz, htake⟩⟩ := hrow
  · have hx : xs = [] := List.eq_nil_of_length_eq_zero hn0
    subst hx
    refine ⟨⟨fun _ => 0, fun _ => False, fun b o => if St b o then some .st else none, fun _ => (none, 0)⟩, fun _ h => h, ?_, ?_, ?_, ?_⟩
    · intro b o x _ hx
      have hx' : (if St b o then some Own.st else none) = some x := hx
      split at hx'
      · rename_i hs; simp at hx'; exact ⟨hx'.symm, hs⟩
      · simp at hx'
    · intro b o x hx
      have hx' : (if St b o then some Own.st else none) = some x := hx
      split at hx'
      · rename_i hs; exact Nat.lt_of_lt_of_le (hbd b o hs) hext.le
      · simp at hx'
    · exact ⟨rfl, _, rfl, Nat.le_refl _, fun _ => rfl⟩
    · intro k o ho
      cases k with
      | zero => simp at ho; subst ho; exact ⟨⟨⟨⟨Nat.le_refl _, by simp⟩, fun f hf => by simp at hf; subst hf; exact Nat.le_refl _⟩, fun h => absurd h (Nat.lt_irrefl 0)⟩, rfl⟩
      | succ k => simp at ho
  · have hcell : ∀ q, q < cap * sz τ → w'.cell? ⟨gb, q, none⟩ = cur[q]? ∧ (∃ u, w'.cell? ⟨gb, q, none⟩ = some u) ∧ stuck w' ⟨gb, q, none⟩ = false := by
      intro q hq
      have h1 : w'.cell? ⟨gb, q, none⟩ = cur[q]? := by simp [World.cell?, hheap]
      refine ⟨h1, ⟨cur[q]'(by omega), by rw [h1]; exact Array.getElem?_eq_getElem _⟩, ?_⟩
      simp [stuck, World.shape?, World.frozen?, hheap]
    have hgb : gb < w'.heap.size := (Array.getElem?_eq_some_iff.1 hheap).1
    let g : G := ⟨fun _ => 0, fun _ => False, fun b o => if b < w.heap.size then (if St b o then some .st else none) else if b = gb ∧ o < cap * sz τ then some (.obj 0) else none, fun _ => (some ⟨gb, 0, none⟩, cap)⟩
    have hω : ∀ o, o < cap * sz τ → g.ω gb o = some (.obj 0) := fun o ho => by
      show (if gb < w.heap.size then _ else _) = _
      rw [if_neg (by omega), if_pos ⟨rfl, ho⟩]
    have hst : Keeps St w g.St w' := fun b o hs => by
      refine ⟨?_, hext.cell (p := ⟨b, o, none⟩) (hbd b o hs)⟩
      show (if b < w.heap.size then _ else _) = _
      rw [if_pos (hbd b o hs), if_pos hs]
    refine ⟨g, fun _ h => h, ?_, ?_, ?_, ?_⟩
    · intro b o x hb hx
      have hx' : (if b < w.heap.size then (if St b o then some Own.st else none) else _) = some x := hx
      rw [if_pos hb] at hx'
      split at hx'
      · rename_i hs; simp at hx'; exact ⟨hx'.symm, hs⟩
      · simp at hx'
    · intro b o x hx
      have hx' : (if b < w.heap.size then (if St b o then some Own.st else none) else if b = gb ∧ o < cap * sz τ then some (Own.obj 0) else none) = some x := hx
      split at hx'
      · rename_i hb; exact Nat.lt_of_lt_of_le hb hext.le
      · split at hx'
        · rename_i hh; rw [hh.1]; exact hgb
        · simp at hx'
    · exact ⟨rfl, _, rfl, Nat.le_refl _, fun _ => rfl⟩
    · intro k o ho
      cases k with
      | succ k => simp at ho
      | zero =>
        simp at ho; subst ho
        refine ⟨⟨⟨⟨hcap, hlen⟩, fun f hf => by simp at hf; subst hf; exact Nat.zero_le _⟩, fun _ => ⟨gb, 0, fun i j => cur.getD (i * sz τ + j) undef, rfl, ⟨?_, ?_, ?_⟩⟩⟩, rfl⟩
        · intro i j hi hj
          have hlt : i * sz τ + j < cap * sz τ := by
            have h1 : (i + 1) * sz τ ≤ cap * sz τ := Nat.mul_le_mul_right _ (Nat.le_trans hi hcap)
            have hj' : j < sz τ := hj
            rw [Nat.add_mul] at h1; omega
          obtain ⟨c1, _, c3⟩ := hcell _ hlt
          have e0 : 0 + i * Un.sz τ + j = i * sz τ + j := by show 0 + i * sz τ + j = _; omega
          refine ⟨?_, ?_⟩
          · show w'.cell? ⟨gb, 0 + i * Un.sz τ + j, none⟩ = _
            rw [e0, c1, Array.getD_eq_getD_getElem?, Array.getElem?_eq_getElem (by omega)]; rfl
          · show Mode g w' 0 (some 0) i gb (0 + i * Un.sz τ + j)
            rw [e0]
            exact ⟨fun h => absurd h (Nat.not_lt_zero _), fun _ => ⟨hω _ hlt, c3⟩⟩
        · intro i hi j d hd
          obtain ⟨u, hu, hr⟩ := hrel i hi j d hd
          have hj : j < sz τ := by have h0 : j < (enc τ (xs[i]'hi)).length := (List.getElem?_eq_some_iff.1 hd).1; rwa [enc_len] at h0
          have hlt : i * sz τ + j < xs.length * sz τ := by
            have h1 : (i + 1) * sz τ ≤ xs.length * sz τ := Nat.mul_le_mul_right _ hi
            rw [Nat.add_mul] at h1; omega
          have hu2 : cur.getD (i * sz τ + j) undef = u := by
            rw [← htake, List.getElem?_take_of_lt hlt, Array.getElem?_toList] at hu
            rw [Array.getD_eq_getD_getElem?, hu]; rfl
          show VRel En g.St w' (cur.getD (i * sz τ + j) undef) d
          rw [hu2]; exact hr.mono hst
        · intro _ x hx hx'
          have hx2 : x < cap * sz τ := hx'
          obtain ⟨_, c2, c3⟩ := hcell x hx2
          show g.ω gb (0 + x) = _ ∧ _
          rw [Nat.zero_add]
          exact ⟨hω x hx2, c2, c3⟩

set_option maxHeartbeats 2000000 in
/-- slices.Clone of a slice of length 0 that is not nil, whatever its address. -/
theorem clone_zero {P : Program} {ρ : Ren} (L : SlLaysE0.n41 P ρ) (i0 : TypeInfo) (z : Value) (size bytes : Nat) (hi : P.info? (ρ.t 23) = some i0) (hz0 : i0.zero = some z) (hz1 : i0.size = size) (hz2 : i0.bytes = bytes) (hzs : z.cells.size = size) (hsz : 0 < size)
    (z23 : ∀ w, (Go.sizeOf (ρ.t 23)).run P w = .ok size w) (a : Addr) (c : Nat) (w : World) :
    Calls P (ρ.f 41) #[.slice (some a) 0 c] w fun e w' => ∃ v', e = .returned v' ∧ w'.ownsRow w.heap.size (ρ.t 23) size v' 0 [] ∧ Below w.heap.size w w' := by
  have mixed := L.mixed; have t4 := L.t4; have a4 := L.a4; have z4 := L.z4; have v4 := L.v4; have t22 := L.t22; have a22 := L.a22; have z22 := L.z22; have v22 := L.v22
  have q22 : ∀ (w : World) (a : Option Addr) (n c n' c' : Nat), (binOp .eql (ρ.t 22) (.slice a n c) (.slice none n' c')).run P w = .ok (.bool a.isNone) w := fun w a n c n' c' => Lib.run_eql_slice_nil w _ _ a n c n' c' L.t22
  have u22 : ∀ w, Sem.run P (underlying (ρ.t 22)) w = .ok (TypeDesc.slice (ρ.t 23)) w := run_underlying t22
  obtain ⟨_, _, FG⟩ := L.f41
  go_enter FG, SlBodyN.n41_ntmps ρ
  go_wp2_with (at_builtin; refine wpList_append_own _ rfl _ _ (ρ.t 22) rfl w.heap.size (ρ.t 23) i0 z size bytes t22 hi hz0 hz1 hz2 hzs hsz _ _ _ rfl (World.ownsRow_made w #[] 0 (Nat.le_refl _) (Nat.zero_le _) (by simp)) a 0 c [] rfl ?qc1 ?qc2 ?qc3 ?qc4 ?qc5 ?qc6 ?_)
  case qc1 => simp
  case qc2 => intro j u hj; simp at hj
  case qc3 => intro u hu; simp at hu
  case qc4 => unfold maxLen; omega
  case qc5 => omega
  case qc6 => simp
  intro v' w1 hown hgrow hnil
  go_wp2
  go_ret
  exact ⟨v', rfl, by simpa using hown, ((Below.refl _ w).alloc (Nat.le_refl _) _).grown hgrow (by simp) (by intro k hk; simp [Value.ownBlock] at hk; omega)⟩

theorem ext_of_below {w w' : World} (h : Below w.heap.size w w') : Ext w w' := ⟨h.os, h.tape, h.output, h.size, h.block⟩
/-- slices.Clone, at elements of some kind. -/
def F_clone (τ : Ty) : FnC Un := fun args => match args with
  | [x0] => (dL τ x0).bind fun s => some ([s.length ≤ 1000000000], [.c (.ob 0 0)], [⟨0, τ, s, some 0, true⟩])
  | _ => none
theorem ok_clone {ρ : Ren} (L : SlLaysE0.n41 Try.prog ρ) (τ : Ty) (i0 : TypeInfo) (z : Value) (bytes : Nat) (hi : Try.prog.info? (ρ.t 23) = some i0) (hz0 : i0.zero = some z) (hz1 : i0.size = sz τ) (hz2 : i0.bytes = bytes) (hzs : z.cells.size = sz τ) (hsz : 0 < sz τ)
    (hb : bytes ≤ 100000) (z23 : ∀ w, (Go.sizeOf (ρ.t 23)).run Try.prog w = .ok (sz τ) w) (hB : HasBody Try.prog (ρ.f 41)) : FnOK (ρ.f 41) (F_clone τ) := by
  intro args ob rs os h hob
  unfold F_clone at h
  split at h
  · simp only [Option.bind_eq_some_iff, Option.some.injEq, Prod.mk.injEq] at h
    obtain ⟨s, e0, rfl, rfl, rfl⟩ := h
    obtain rfl := dL_eq e0
    have hlen : s.length ≤ 1000000000 := hob _ (by simp)
    refine ⟨fun w St vs hbd hvs => ?_, hB⟩
    match vs, hvs with
    | [v0], ⟨h0, _⟩ =>
      have hV : VRel En St w v0 (.dat τ s) := h0
      rcases hV.inv with ⟨rfl, a, cap, rfl⟩ | ⟨b, o, cap, cv, rfl, hcap, hc, hr⟩
      · cases a with
        | none =>
          refine (AnyE.slices_Clone_nil L 0 cap w).mono ?_
          rintro e w' ⟨rfl, rfl⟩
          exact ⟨_, rfl, ret_own (e := ρ.t 23) (news := []) (Ext.refl _) hbd (by simp) ⟨by simp, .inl ⟨rfl, rfl⟩⟩ (fun i hi => absurd hi (Nat.not_lt_zero _))⟩
        | some a =>
          refine (clone_zero L i0 z (sz τ) bytes hi hz0 hz1 hz2 hzs hsz z23 a cap w).mono ?_
          rintro e w' ⟨v', rfl, hown, hbel⟩
          exact ⟨v', rfl, ret_own (ext_of_below hbel) hbd (by simp) hown (fun i hi => absurd hi (Nat.not_lt_zero _))⟩
      · have hcell : ∀ j u, (rowsOf s.length (sz τ) cv)[j]? = some u → w.cell? ⟨b, o + j, none⟩ = some u ∧ ∃ i q, i < s.length ∧ q < sz τ ∧ j = i * sz τ + q ∧ u = cv i q := by
          intro j u hj
          obtain ⟨i, q, hi, hq, rfl, rfl⟩ := rowsOf_inv hj
          refine ⟨?_, i, q, hi, hq, rfl, rfl⟩
          have := (hc i q hi hq).2
          rw [← Nat.add_assoc]; exact this
        have hone : ∀ u ∈ rowsOf s.length (sz τ) cv, u.oneCell' = true := by
          intro u hu
          obtain ⟨j, hj⟩ := List.getElem?_of_mem hu
          obtain ⟨_, i, q, hi, hq, _, rfl⟩ := hcell j u hj
          have hq' : q < (enc τ (s[i]'hi)).length := by rw [enc_len]; exact hq
          have := hr i hi q _ (List.getElem?_eq_getElem hq')
          exact oneC_eq this.one
        refine (AnyE.slices_Clone L i0 z (sz τ) bytes hi hz0 hz1 hz2 hzs hsz z23 b o s.length cap (rowsOf s.length (sz τ) cv) w (rowsOf_len _ _ _) (by unfold maxLen; omega)
          (by have : s.length * bytes ≤ 1000000000 * 100000 := Nat.mul_le_mul hlen hb
              omega) (fun j u hj => (hcell j u hj).1) hone).mono ?_
        rintro e w' ⟨v', rfl, hown, _, hbel⟩
        refine ⟨v', rfl, ret_own (ext_of_below hbel) hbd (by omega) hown fun i hi j d hd => ?_⟩
        have hj : j < sz τ := by have h0 : j < (enc τ (s[i]'hi)).length := (List.getElem?_eq_some_iff.1 hd).1; rwa [enc_len] at h0
        exact ⟨cv i j, rowsOf_get hsz hi hj, hr i hi j d hd⟩
  · simp at h
def mach0 : Mc Un := mach (fun _ => none) (fun _ => none) (fun _ => none) (fun _ => none) (fun _ => none)
/-- Is it a slice of such elements? -/
def isSlOf (t e : TypeId) (τ : Ty) : Bool := match mach0.ti t with | .sl e' τ' b => e' == e && decide (τ' = τ) && decide (b ≤ 100000) | _ => false
theorem slOf {t e : TypeId} {τ : Ty} (h : isSlOf t e τ = true) : ∃ bytes i z, bytes ≤ 100000 ∧ 0 < bytes ∧ 0 < sz τ ∧ Try.prog.underlying t = some (.slice e) ∧ Try.prog.info? e = some i ∧ i.size = sz τ ∧ i.bytes = bytes ∧ i.zero = some z ∧ z.cells.size = sz τ := by
  unfold isSlOf at h
  split at h
  · rename_i e' τ' b hti
    simp only [Bool.and_eq_true, beq_iff_eq, decide_eq_true_eq] at h
    obtain ⟨⟨rfl, rfl⟩, hb⟩ := h
    have h := ((tabOK (fun _ => none) (fun _ => none) (fun _ => none) (fun _ => none) (fun _ => none)).ti t).2
    rw [show (mach (fun _ => none) (fun _ => none) (fun _ => none) (fun _ => none) (fun _ => none)).ti t = .sl e' τ' b from hti] at h
    obtain ⟨h0, ⟨h1, h1'⟩, i, z, h2, h3, h4, h5, h6⟩ := h
    exact ⟨b, i, z, hb, h1', h1, h0, h2, h3, h4, h5, h6⟩
  · simp at h
theorem clone_inst {ρ : Ren} (L : SlLaysE0.n41 Try.prog ρ) {τ : Ty} (hti : isSlOf (ρ.t 22) (ρ.t 23) τ = true) (hB : HasBody Try.prog (ρ.f 41)) : FnOK (ρ.f 41) (F_clone τ) := by
  obtain ⟨bytes, i, z, hb, h1', h1, h0, h2, h3, h4, h5, h6⟩ := slOf hti
  refine ok_clone L τ i z bytes h2 h5 h3 h4 h6 h1 hb (fun w => ?_) hB
  have := Go.run_sizeOf w h2
  rw [this]; simp only [Program.cellsOf, h2]; exact congrArg (fun n => Result.ok n w) h3
end Go.Proofs.Ytaepcbdcjbfgjaa.B
