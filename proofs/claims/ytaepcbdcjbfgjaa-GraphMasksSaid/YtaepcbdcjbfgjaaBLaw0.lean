/- A law's arguments as data. -/
import Derived.OpenShut
import Derived.Test.YtaepcbdcjbfgjaaBLib
import Derived.Test.YtaepcbdcjbfgjaaLawBase
import Derived.ChangeArms
import Derived.ChangeShapes
namespace Go.Proofs.Ytaepcbdcjbfgjaa.B
open Go Go.RowKit

inductive Fl
  | int | bool | str
  | num (k : IntKind)
  | sl (τ : Ty)
  deriving DecidableEq
/-- What a cell holds. -/
def flOf : V Un → Option Fl
  | .s (.int .i64 _) => some .int
  | .s (.int k _) => some (.num k)
  | .s (.bool _) => some .bool
  | .s (.string _) => some .str
  | .dat τ _ => some (.sl τ)
  | _ => none
def fls (τ : Ty) : List Fl := (enc τ (dflt τ)).filterMap flOf

theorem fl_cons {vs : List (V Un)} {f : Fl} {fs : List Fl} (h : vs.map flOf = (f :: fs).map some) : ∃ v r, vs = v :: r ∧ flOf v = some f ∧ r.map flOf = fs.map some := by
  cases vs with
  | nil => simp at h
  | cons v r => simp at h; exact ⟨v, r, rfl, h.1, by simpa using h.2⟩
theorem fl_nil {vs : List (V Un)} (h : vs.map flOf = ([] : List Fl).map some) : vs = [] := by simpa using h
theorem fl_int {vs : List (V Un)} {fs : List Fl} (h : vs.map flOf = (Fl.int :: fs).map some) : ∃ n r, vs = ci n :: r ∧ r.map flOf = fs.map some := by
  obtain ⟨v, r, rfl, h1, h2⟩ := fl_cons h
  unfold flOf at h1; split at h1 <;> simp at h1
  exact ⟨_, r, rfl, h2⟩
theorem fl_num {vs : List (V Un)} {k : IntKind} {fs : List Fl} (h : vs.map flOf = (Fl.num k :: fs).map some) : ∃ n r, vs = .s (.int k n) :: r ∧ r.map flOf = fs.map some := by
  obtain ⟨v, r, rfl, h1, h2⟩ := fl_cons h
  unfold flOf at h1; split at h1 <;> simp at h1
  subst h1
  exact ⟨_, r, rfl, h2⟩
theorem fl_bool {vs : List (V Un)} {fs : List Fl} (h : vs.map flOf = (Fl.bool :: fs).map some) : ∃ n r, vs = cb n :: r ∧ r.map flOf = fs.map some := by
  obtain ⟨v, r, rfl, h1, h2⟩ := fl_cons h
  unfold flOf at h1; split at h1 <;> simp at h1
  exact ⟨_, r, rfl, h2⟩
theorem fl_str {vs : List (V Un)} {fs : List Fl} (h : vs.map flOf = (Fl.str :: fs).map some) : ∃ n r, vs = cs n :: r ∧ r.map flOf = fs.map some := by
  obtain ⟨v, r, rfl, h1, h2⟩ := fl_cons h
  unfold flOf at h1; split at h1 <;> simp at h1
  exact ⟨_, r, rfl, h2⟩
theorem fl_sl {vs : List (V Un)} {τ : Ty} {fs : List Fl} (h : vs.map flOf = (Fl.sl τ :: fs).map some) : ∃ (l : List (Den τ)) (r : List (V Un)), vs = .dat (U := Un) τ l :: r ∧ r.map flOf = fs.map some := by
  obtain ⟨v, r, rfl, h1, h2⟩ := fl_cons h
  unfold flOf at h1; split at h1 <;> simp at h1
  subst h1
  exact ⟨_, r, rfl, h2⟩

section
variable {H : Type} {enc' : TypeId × Value → H} {P : Program} {w : World} {spare : Nat → Bool} {held : Bool}

/-- The cells of a type, by the program's own table; 'tab' says which kind a slice type's elements are of. -/
def layFs (P : Program) (lay : TypeId → Option (List Fl)) : List Field → Nat → Option (List Fl)
  | [], _ => some []
  | f :: r, off => match lay f.type with
    | some l => if f.offset = off ∧ l.length = P.cellsOf f.type then (layFs P lay r (off + l.length)).map (l ++ ·) else none
    | none => none
def lay (P : Program) (tab : TypeId → TI Un) : Nat → TypeId → Option (List Fl)
  | 0, _ => none
  | k + 1, t => match P.underlying t with
    | some (.int .i64) => some [.int]
    | some (.int k) => some [.num k]
    | some (.array n e) => match lay P tab k e with
      | some l => if l.length = P.cellsOf e ∧ n * l.length = P.cellsOf t then some ((List.replicate n l).flatten) else none
      | none => none
    | some .bool => some [.bool]
    | some .string => some [.str]
    | some (.slice e) => match tab t with
      | .sl e' τ _ => if e' = e then some [.sl τ] else none
      | _ => none
    | some (.struct fs) => match layFs P (lay P tab k) fs.toList 0 with
      | some l => if l.length = P.cellsOf t then some l else none
      | none => none
    | _ => none

/-- All lists within are of bulk within a machine's reach. -/
inductive VB (byt : Ty → Nat) : V Un → Prop
  | s (x : Value) : VB byt (.s x)
  | dat (τ : Ty) (xs : List (Den τ)) (h : xs.length * byt τ ≤ reachBytes) (h2 : ∀ x ∈ xs, ∀ d ∈ enc τ x, VB byt d) : VB byt (.dat (U := Un) τ xs)
theorem weightsAll_mem {d : DataW H} {e : TypeId} {k : Nat} : ∀ {l : List (DataW H)}, d ∈ l → k ∈ d.weights P e → k ∈ DataW.weightsAll P e l
  | x :: l, hd, hk => by
    rw [DataW.weightsAll]
    rcases List.mem_cons.1 hd with rfl | hd
    · exact List.mem_append.2 (.inl hk)
    · exact List.mem_append.2 (.inr (weightsAll_mem hd hk))
theorem all2_of_get {α β : Type} {R : α → β → Prop} : ∀ {l : List α} {r : List β}, l.length = r.length → (∀ (i : Nat) (x : α) (y : β), l[i]? = some x → r[i]? = some y → R x y) → All2 R l r
  | [], [], _, _ => trivial
  | x :: l, y :: r, h, hh => ⟨hh 0 x y rfl rfl, all2_of_get (by simpa using h) fun i a b ha hb => hh (i + 1) a b (by simpa using ha) (by simpa using hb)⟩
  | [], _ :: _, h, _ => by simp at h
  | _ :: _, [], h, _ => by simp at h
def StA (w : World) (b _o : Nat) : Prop := b < w.heap.size
/-- All elements of a slice type are laid as their kind says. -/
def LayOK (P : Program) (tab : TypeId → TI Un) : Prop := ∀ t e τ b, tab t = .sl e τ b → ∃ k, lay P tab k e = some (fls τ)
def DecTot : Prop := ∀ (τ : Ty) (vs : List (V Un)), vs.map flOf = (fls τ).map some → ∃ x, dec τ vs = some x

theorem All2.at {α β : Type} {R : α → β → Prop} : ∀ {l : List α} {r : List β}, All2 R l r → ∀ (i : Nat) (x : α) (y : β), l[i]? = some x → r[i]? = some y → R x y
  | [], [], _, i, x, y, hx, _ => by simp at hx
  | a :: l, b :: r, h, i, x, y, hx, hy => by
    cases i with
    | zero => simp at hx hy; subst hx; subst hy; exact h.1
    | succ i => simp at hx hy; exact All2.at h.2 i x y hx hy

theorem fields_data {tab : TypeId → TI Un} {byt : Ty → Nat} {k n : Nat} {cs : List Value}
    (IH : ∀ t cs (x : DataW H × List MemPlace) fl, DataW.trod enc' P w 0 spare held n t cs = some x → lay P tab k t = some fl → ∃ vs, All2 (VRel En (StA w) w) cs vs ∧ vs.map flOf = fl.map some ∧ ((∀ q ∈ x.1.weights P t, q ≤ reachBytes) → ∀ v ∈ vs, VB byt v)) :
    ∀ (fs : List Field) (ys : List (DataW H × List MemPlace)) (off : Nat) (fl : List Fl), layFs P (lay P tab k) fs off = some fl → All2 (fun f y => DataW.trod enc' P w 0 spare held n f.type ((cs.drop f.offset).take (P.cellsOf f.type)) = some y) fs ys →
      off + fl.length = cs.length → ∃ vs, All2 (VRel En (StA w) w) (cs.drop off) vs ∧ vs.map flOf = fl.map some ∧ ((∀ q ∈ DataW.weightsEach P (fs.map (·.type)) (ys.map (·.1)), q ≤ reachBytes) → ∀ v ∈ vs, VB byt v)
  | [], ys, off, fl, h, _, hl => by
    simp [layFs] at h; subst h
    refine ⟨[], ?_, rfl, fun _ v hv => by simp at hv⟩
    rw [List.drop_of_length_le (by simp at hl; omega)]; trivial
  | f :: r, [], off, fl, h, hf, hl => hf.elim
  | f :: r, y :: ys, off, fl, h, hf, hl => by
    simp only [layFs] at h
    split at h
    · rename_i l hlf
      split at h
      · rename_i hc
        rw [Option.map_eq_some_iff] at h
        obtain ⟨fl', h1, rfl⟩ := h
        obtain ⟨hy, hf2⟩ := hf
        rw [hc.1, ← hc.2] at hy
        obtain ⟨vs1, a1, a2, a3⟩ := IH _ _ _ _ hy hlf
        obtain ⟨vs2, b1, b2, b3⟩ := fields_data IH r ys (off + l.length) fl' h1 hf2 (by simp at hl; omega)
        refine ⟨vs1 ++ vs2, ?_, by simp [a2, b2], fun hq v hv => ?_⟩
        · rw [← List.take_append_drop l.length (cs.drop off), List.drop_drop]
          exact a1.append b1
        · simp only [List.map_cons] at hq
          rw [DataW.weightsEach] at hq
          rcases List.mem_append.1 hv with hv | hv
          · exact a3 (fun q hh => hq q (List.mem_append.2 (.inl hh))) v hv
          · exact b3 (fun q hh => hq q (List.mem_append.2 (.inr hh))) v hv
      · simp at h
    · simp at h

theorem array_data {byt : Ty → Nat} {n : Nat} {cs : List Value} {e : TypeId} {l : List Fl}
    (IH : ∀ cs (x : DataW H × List MemPlace), DataW.trod enc' P w 0 spare held n e cs = some x → ∃ vs, All2 (VRel En (StA w) w) cs vs ∧ vs.map flOf = l.map some ∧ ((∀ q ∈ x.1.weights P e, q ≤ reachBytes) → ∀ v ∈ vs, VB byt v)) (hle : l.length = P.cellsOf e) :
    ∀ (m : Nat) (ys : List (DataW H × List MemPlace)) (off : Nat), ys.length = m → (∀ i, i < m → DataW.trod enc' P w 0 spare held n e ((cs.drop (off + i * P.cellsOf e)).take (P.cellsOf e)) = ys[i]?) →
      off + m * l.length = cs.length → ∃ vs, All2 (VRel En (StA w) w) (cs.drop off) vs ∧ vs.map flOf = ((List.replicate m l).flatten).map some ∧ ((∀ q ∈ DataW.weightsAll P e (ys.map (·.1)), q ≤ reachBytes) → ∀ v ∈ vs, VB byt v)
  | 0, ys, off, _, _, hl => by
    refine ⟨[], ?_, rfl, fun _ v hv => by simp at hv⟩
    rw [List.drop_of_length_le (by omega)]; trivial
  | m + 1, [], off, h, _, _ => by simp at h
  | m + 1, y :: ys, off, hlen, hf, hl => by
    have h0 := hf 0 (by omega)
    simp only [Nat.zero_mul, Nat.add_zero, List.getElem?_cons_zero] at h0
    obtain ⟨vs1, a1, a2, a3⟩ := IH _ _ h0
    obtain ⟨vs2, b1, b2, b3⟩ := array_data IH hle m ys (off + l.length) (by simpa using hlen) (fun i hi => by
      have := hf (i + 1) (by omega)
      rw [List.getElem?_cons_succ] at this
      rw [← this, hle]; congr 3; rw [Nat.add_mul, Nat.one_mul]; omega) (by rw [Nat.add_mul, Nat.one_mul] at hl; omega)
    refine ⟨vs1 ++ vs2, ?_, by rw [List.replicate_succ, List.flatten_cons]; simp [a2, b2], fun hq v hv => ?_⟩
    · have e1 := List.take_append_drop l.length (cs.drop off)
      rw [List.drop_drop] at e1
      rw [← e1]
      have a1' : All2 (VRel En (StA w) w) ((cs.drop off).take l.length) vs1 := by rw [hle]; exact a1
      exact a1'.append b1
    · simp only [List.map_cons] at hq
      rw [DataW.weightsAll] at hq
      rcases List.mem_append.1 hv with hv | hv
      · exact a3 (fun q hh => hq q (List.mem_append.2 (.inl hh))) v hv
      · exact b3 (fun q hh => hq q (List.mem_append.2 (.inr hh))) v hv

theorem cells_get {a : Addr} {n : Nat} {cs : List Value} (h : w.cells? 0 a n = some cs) : cs.length = n ∧ ∀ j, j < n → w.cell? (a.add j) = cs[j]? := by
  unfold World.cells? at h
  rw [if_pos (Nat.zero_le _)] at h
  refine ⟨by simpa using mapM_some_length h, fun j hj => ?_⟩
  exact mapM_some_get h j j (by simp [hj])

theorem trod_data {tab : TypeId → TI Un} {byt : Ty → Nat} (hbyt : ∀ t e τ b, tab t = .sl e τ b → P.bytesOf e = byt τ) (hlay : LayOK P tab) (hdec : DecTot) (hsz : ∀ τ, 0 < sz τ) (hcell : ∀ t e τ b, tab t = .sl e τ b → P.cellsOf e = sz τ) :
    ∀ (n : Nat) (t : TypeId) (cs : List Value) (x : DataW H × List MemPlace) (k : Nat) (fl : List Fl), DataW.trod enc' P w 0 spare held n t cs = some x → lay P tab k t = some fl →
      ∃ vs, All2 (VRel En (StA w) w) cs vs ∧ vs.map flOf = fl.map some ∧ ((∀ q ∈ x.1.weights P t, q ≤ reachBytes) → ∀ v ∈ vs, VB byt v) := by
  intro n
  induction n with
  | zero => intro t cs x k fl h; simp [DataW.trod] at h
  | succ n IH =>
    intro t cs x k fl h hl
    cases k with
    | zero => simp [lay] at hl
    | succ k =>
      simp only [lay] at hl
      split at hl
      · rename_i hu
        obtain ⟨m, rfl, -, hw⟩ := DataW.trod_int hu h
        simp at hl; subst hl
        refine ⟨[ci m], ⟨.s _ ?_, trivial⟩, rfl, fun _ v hv => by rw [List.mem_singleton] at hv; subst hv; exact .s _⟩
        simpa [Lit.wf, oneC] using hw
      · rename_i kd hne hu
        obtain ⟨m, rfl, -, hw⟩ := DataW.trod_int hu h
        simp at hl; subst hl
        refine ⟨[.s (.int kd m)], ⟨.s _ ?_, trivial⟩, ?_, fun _ v hv => by rw [List.mem_singleton] at hv; subst hv; exact .s _⟩
        · simpa [Lit.wf, oneC] using hw
        · cases kd <;> first | rfl | exact (hne rfl).elim
      · rename_i m e hu
        split at hl
        · rename_i l hle
          split at hl
          · rename_i hc
            simp only [Option.some.injEq] at hl; subst hl
            obtain ⟨xs, n', hn', hx0, g1, g2, g3⟩ := DataW.trod_array hu h
            obtain rfl : n' = n := by omega
            obtain ⟨vs, b1, b2, b3⟩ := array_data (byt := byt) (cs := cs) (e := e) (l := l) (fun cs x hx => IH _ _ _ _ _ hx hle) hc.1 m xs 0 g2 (fun i hi => by rw [Nat.zero_add]; exact g3 i hi) (by rw [g1, ← hc.2]; omega)
            refine ⟨vs, by simpa using b1, b2, fun hq => b3 (fun q hh => hq q ?_)⟩
            rw [hx0]
            simp only [DataW.weights, hu]
            exact hh
          · simp at hl
        · simp at hl
      · rename_i hu
        simp at hl; subst hl
        obtain ⟨b, rfl⟩ : ∃ b, cs = [.bool b] := by
          unfold DataW.trod at h; rw [hu] at h
          split at h <;> first | exact ⟨_, rfl⟩ | simp_all
        exact ⟨[cb b], ⟨.s _ rfl, trivial⟩, rfl, fun _ v hv => by rw [List.mem_singleton] at hv; subst hv; exact .s _⟩
      · rename_i hu
        simp at hl; subst hl
        obtain ⟨s, rfl, hs⟩ : ∃ s : ByteArray, cs = [.string s] ∧ s.size ≤ maxLen := by
          unfold DataW.trod at h; rw [hu] at h
          split at h <;> first | (rename_i s _; simp at h; exact ⟨_, rfl, h.1⟩) | simp_all
        exact ⟨[B.cs s], ⟨.s _ (decide_eq_true hs), trivial⟩, rfl, fun _ v hv => by rw [List.mem_singleton] at hv; subst hv; exact .s _⟩
      · rename_i e hu
        split at hl
        · rename_i e' τ b ht
          split at hl
          · rename_i he; subst he
            simp at hl; subst hl
            rcases DataW.trod_slice hu h with ⟨rfl, -⟩ | ⟨a, len, cap, elems, rest, m, hm, rfl, hx0, -, h1, h2, h3, h4, -, -⟩
            · exact ⟨[.dat (U := Un) τ []], ⟨.nil _ _ _, trivial⟩, rfl, fun _ v hv => by rw [List.mem_singleton] at hv; subst hv; exact .dat τ [] (by simp) (by simp)⟩
            · obtain rfl : m = n := by omega
              obtain ⟨ke, hke⟩ := hlay t e' τ b ht
              have hc := hcell t e' τ b ht
              have hz := hsz τ
              have key : ∀ i, i < len → ∃ (x' : Den τ) (cs : List Value), All2 (VRel En (StA w) w) cs (enc τ x') ∧ cs.length = sz τ ∧ (∀ j, j < sz τ → w.cell? ((a.add (i * sz τ)).add j) = cs[j]?) ∧ ((∀ q ∈ x.1.weights P t, q ≤ reachBytes) → ∀ d ∈ enc τ x', VB byt d) := by
                intro i hi
                have := h4 i hi
                rw [hc] at this
                have he : elems[i]? = some elems[i] := List.getElem?_eq_getElem (by omega)
                rw [he, Option.bind_eq_some_iff] at this
                obtain ⟨ci, g1, g2⟩ := this
                obtain ⟨vs, g3, g4, g8⟩ := IH _ _ _ _ _ g2 hke
                obtain ⟨x', hx⟩ := hdec τ vs g4
                obtain ⟨g5, g6⟩ := cells_get g1
                have hbk := enc_back τ vs x' hx
                refine ⟨x', ci, by rw [hbk]; exact g3, g5, g6, fun hq d hd => ?_⟩
                rw [hbk] at hd
                refine g8 (fun q hh => hq q ?_) d hd
                rw [hx0]
                simp only [DataW.weights, hu]
                refine List.mem_cons_of_mem _ (List.mem_append.2 (.inl (weightsAll_mem (List.mem_map.2 ⟨_, List.getElem_mem (by omega : i < elems.length), rfl⟩) hh)))
              cases len with
              | zero => exact ⟨[.dat (U := Un) τ []], ⟨.nil _ _ _, trivial⟩, rfl, fun _ v hv => by rw [List.mem_singleton] at hv; subst hv; exact .dat τ [] (by simp) (by simp)⟩
              | succ len =>
                obtain ⟨blk, off, spot⟩ := a
                have hspot : spot = none := by
                  obtain ⟨x', cs, -, g1, g2, -⟩ := key 0 (by omega)
                  have := g2 0 hz
                  rw [List.getElem?_eq_getElem (by omega)] at this
                  simp [Addr.add, World.cell?] at this
                  split at this
                  · cases spot with
                    | none => rfl
                    | some _ => simp at this
                  · simp at this
                subst hspot
                have hadd : ∀ p q : Nat, ((⟨blk, off, none⟩ : Addr).add p).add q = ⟨blk, off + p + q, none⟩ := by
                  intro p q; unfold Addr.add
                  by_cases hp : p = 0 <;> by_cases hq : q = 0 <;> simp [hp, hq]
                let f : Nat → Den τ := fun i => if hi : i < len + 1 then Classical.choose (key i hi) else dflt τ
                let xs : List (Den τ) := (List.range (len + 1)).map f
                have hxl : xs.length = len + 1 := by simp [xs]
                have hVB : (∀ q ∈ x.1.weights P t, q ≤ reachBytes) → VB byt (.dat (U := Un) τ xs) := by
                  intro hq
                  refine .dat τ xs ?_ ?_
                  · have := hq ((elems.length + rest.length) * P.bytesOf e') (by rw [hx0]; simp only [DataW.weights, hu, List.length_map]; exact List.mem_cons_self)
                    rw [hbyt t e' τ b ht] at this
                    rw [hxl]
                    exact Nat.le_trans (Nat.mul_le_mul_right _ (by omega)) this
                  · intro y hy d hd
                    obtain ⟨i, hi, rfl⟩ := List.getElem_of_mem hy
                    have hi' : i < len + 1 := by omega
                    have hxi : xs[i] = Classical.choose (key i hi') := by
                      simp only [xs, List.getElem_map, List.getElem_range, f]
                      rw [dif_pos hi']
                    obtain ⟨cs, -, -, -, g3⟩ := Classical.choose_spec (key i hi')
                    rw [hxi] at hd
                    exact g3 hq d hd
                refine ⟨[.dat (U := Un) τ xs], ⟨?_, trivial⟩, rfl, fun hq v hv => by rw [List.mem_singleton] at hv; subst hv; exact hVB hq⟩
                have hrel : VRel En (StA w) w (.slice (some ⟨blk, off, none⟩) xs.length cap) (.dat (U := Un) τ xs) := by
                  refine .dat (U := Un) τ xs blk off cap (fun i j => (w.cell? ⟨blk, off + i * sz τ + j, none⟩).getD .nilIface) ⟨by omega, by rw [hxl]; exact Nat.le_trans h1 h2⟩ ?_ ?_
                  · intro i j hi hj
                    obtain ⟨cs, -, g1, g2, -⟩ := Classical.choose_spec (key i (by omega))
                    obtain ⟨v, hv⟩ : ∃ v, cs[j]? = some v := ⟨_, List.getElem?_eq_getElem (by rw [g1]; exact hj)⟩
                    have := g2 j hj
                    rw [hadd, hv] at this
                    have this' : w.cell? ⟨blk, off + i * sz τ + j, none⟩ = some v := this
                    refine ⟨?_, ?_⟩
                    · exact lt_of_cell this'
                    · show w.cell? ⟨blk, off + i * sz τ + j, none⟩ = some ((w.cell? ⟨blk, off + i * sz τ + j, none⟩).getD .nilIface)
                      rw [this']; rfl
                  · intro i hi j d hd
                    have hi' : i < len + 1 := by omega
                    have hxi : xs[i] = Classical.choose (key i hi') := by
                      simp only [xs, List.getElem_map, List.getElem_range, f]
                      rw [dif_pos hi']
                    obtain ⟨cs, g0, g1, g2, -⟩ := Classical.choose_spec (key i hi')
                    rw [hxi] at hd
                    have hj : j < sz τ := by
                      have := (List.getElem?_eq_some_iff.1 hd).1
                      have hh := enc_len τ (Classical.choose (key i hi'))
                      exact hh ▸ this
                    obtain ⟨v, hv⟩ : ∃ v, cs[j]? = some v := ⟨_, List.getElem?_eq_getElem (by rw [g1]; exact hj)⟩
                    have := g2 j hj
                    rw [hadd, hv] at this
                    have this' : w.cell? ⟨blk, off + i * sz τ + j, none⟩ = some v := this
                    show VRel En (StA w) w ((w.cell? ⟨blk, off + i * sz τ + j, none⟩).getD .nilIface) d
                    rw [this']
                    exact All2.at g0 j _ _ hv hd
                rw [hxl] at hrel
                exact hrel
          · simp at hl
        · simp at hl
      · rename_i fs hu
        split at hl
        · rename_i l hfs
          split at hl
          · rename_i hlen
            simp at hl; subst hl
            obtain ⟨xs, m, hm, hx0, g1, g2, g3⟩ := DataW.trod_struct hu h
            obtain rfl : m = n := by omega
            have := fields_data (tab := tab) (byt := byt) (k := k) (n := m) (cs := cs) (fun t cs x fl hx hy => IH t cs x k fl hx hy) fs.toList xs 0 l hfs (all2_of_get (by simpa using g2.symm) (fun i f y hi hy => by
              have := g3 i f (by simpa using hi)
              rw [hy] at this; exact this)) (by omega)
            obtain ⟨vs, b1, b2, b3⟩ := this
            refine ⟨vs, by simpa using b1, b2, fun hq => b3 (fun q hh => hq q ?_)⟩
            rw [hx0]
            simp only [DataW.weights, hu]
            exact hh
          · simp at hl
        · simp at hl
      · simp at hl
end
end Go.Proofs.Ytaepcbdcjbfgjaa.B
