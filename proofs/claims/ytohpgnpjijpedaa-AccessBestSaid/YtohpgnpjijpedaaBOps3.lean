/- More operations: elements of slices, parts of slices, lengths, least and greatest numbers. -/
import Derived.Test.YtohpgnpjijpedaaBOps2
namespace Go.Proofs.Ytohpgnpjijpedaa.B
open Go Go.RowKit
variable {U : Uni} {P : Program} {M : Mc U} {fr : Fr} {w : World} {g : G} {s : S U} {a : Act} {o : Oper}

theorem sl_ti (hT : TabOK P M) {t e : TypeId} {τ : U.Ty} {bytes : Nat} (h : M.ti t = .sl e τ bytes) :
    P.underlying t = some (.slice e) ∧ (0 < U.sz τ ∧ 0 < bytes) ∧ ∃ i z, P.info? e = some i ∧ i.size = U.sz τ ∧ i.bytes = bytes ∧ i.zero = some z ∧ z.cells.size = U.sz τ := by
  have := (hT.ti t).2; rw [h] at this; exact this

theorem indexAddr_sound (hT : TabOK P M) (hF : FnsOK P M) (h : Sim P M.E fr g s a w) {t : TypeId} {x y : Operand} {r : Res U} (ho : o.op = .indexAddr t x y) (he : eff M s o = some r) (hob : ∀ p ∈ r.ob, p) : Done P o a w (Goal P M fr s o r) := by
  simp only [eff, ho] at he
  split at he
  · rename_i τ xs tk k n e τ₀ bytes hx hy hti
    split at he
    · rename_i hsz
      simp at he; subst he
      have hn := hob _ (List.mem_singleton.2 rfl)
      obtain ⟨hu, _, i, z, hi, his, _, _, _⟩ := sl_ti hT hti
      have hyv : a.eval y = .int k n := (h.ev hF hy).1
      obtain ⟨hv, _⟩ : CRel P M.E g s.ob w (a.eval x) (.sl τ xs tk) := h.ev hF hx
      rcases hv.inv with ⟨rfl, _⟩ | ⟨b, o', cap, cv, hxv, hcap, h1, h2⟩
      · simp at hn; omega
      · refine pure_sound h (v := .pointer (some ⟨b, o' + n.toNat * U.sz τ, none⟩)) ?_ ⟨by omega, b, o', cap, rfl, by rw [← hxv]; exact hv⟩
        simp [execOp, ho, hxv, hyv, Instr.indexAt, asIntOf, run_underlying hu, hn.1, hn.2, run_sizeOf_info hi, his, hsz, add_none]
    · simp at he
  · rename_i q ver k n e τ₀ bytes hx hy hti
    split at he
    · rename_i ob' hob'
      split at he
      · rename_i hsz
        simp at he; subst he
        have hn := hob _ (List.mem_singleton.2 rfl)
        obtain ⟨hu, _, i, z, hi, his, _, _, _⟩ := sl_ti hT hti
        have hyv : a.eval y = .int k n := (h.ev hF hy).1
        have hxr : CRel P M.E g s.ob w (a.eval x) (.ob q ver) := h.ev hF hx
        obtain ⟨hxv, hoR⟩ := h.obval hob' hxr
        obtain ⟨b, off, cv, e', hA⟩ := hoR.2 (by have := hoR.1.1; omega)
        obtain ⟨j1, j2⟩ := obAt_eq hob'
        refine pure_sound h (v := .pointer (some ⟨b, off + n.toNat * U.sz ob'.τ, none⟩)) ?_ ⟨rfl, ob', j1, Nat.le_of_eq j2.symm, fun _ => ⟨by omega, b, off, e', by rw [Nat.add_zero]⟩⟩
        rw [e'] at hxv
        simp [execOp, ho, hxv, hyv, Instr.indexAt, asIntOf, run_underlying hu, hn.1, hn.2, run_sizeOf_info hi, his, hsz, add_none]
      · simp at he
    · simp at he
  · rename_i k off q n len esz eagg hx hy hti
    split at he
    · rename_i hn
      rw [ok_eq he]
      obtain ⟨e, hu, i, d, hi1, hi2, hi3, hi4⟩ : ∃ e, P.underlying t = some (.array len e) ∧ Shp P e eagg esz := by
        have := (hT.ti t).2; rw [hti] at this; exact this
      have hyv : a.eval y = .int q n := (h.ev hF hy).1
      obtain ⟨hl, hxv⟩ : CRel P M.E g s.ob w (a.eval x) (.bx k off) := h.ev hF hx
      refine pure_sound h (v := .pointer (some ⟨g.β k, off + n.toNat * esz, none⟩)) ?_ ⟨hl, rfl⟩
      simp [execOp, ho, hxv, hyv, Instr.indexAt, asIntOf, Instr.sureAddr, run_underlying hu, hn.1, hn.2, run_sizeOf_info hi3, hi4, add_none]
    · simp at he
  · simp at he

theorem bytes_get (b : ByteArray) (i : Nat) (h : i < b.size) : b[i]? = some (b.toList.getD i 0) := by
  rw [ByteArray.toList_eq, List.getD_eq_getElem?_getD, Array.getElem?_toList]
  have h' : i < b.data.size := h
  rw [Array.getElem?_eq_getElem h']
  rw [getElem?_pos b i h]
  rfl

theorem u8_one (u : UInt8) : oneC (.int .u8 (u.toNat : Nat)) = true := by
  have := u.toNat_lt
  exact oneC_int.2 ⟨by show (0 : Int) ≤ _; omega, by show _ ≤ (255 : Int); omega⟩

theorem index_sound (hT : TabOK P M) (hF : FnsOK P M) (h : Sim P M.E fr g s a w) {t : TypeId} {x y : Operand} {r : Res U} (ho : o.op = .index t x y) (he : eff M s o = some r) (hob : ∀ p ∈ r.ob, p) : Done P o a w (Goal P M fr s o r) := by
  simp only [eff, ho] at he
  split at he
  · rename_i b k n hx hy hti
    simp at he; subst he
    have hn := hob _ (List.mem_singleton.2 rfl)
    have hu : P.underlying t = some .string := by have := (hT.ti t).2; rw [hti] at this; exact this
    have hxv : a.eval x = .string b := (h.ev hF hx).1
    have hyv : a.eval y = .int k n := (h.ev hF hy).1
    refine pure_sound h (v := .int .u8 ((b.toList.getD n.toNat 0).toNat : Nat)) ?_ ⟨rfl, u8_one _⟩
    have hg := bytes_get b n.toNat (by omega)
    simp [execOp, ho, hxv, hyv, Instr.index, asIntOf, run_underlying hu, hn.1, hg]
  · simp at he

theorem drop_rel {E : Enc U} {St : Nat → Nat → Prop} {τ : U.Ty} {xs : List (U.Den τ)} {b o cap n : Nat} (h : VRel E St w (.slice (some ⟨b, o, none⟩) xs.length cap) (.dat τ xs)) (hn : n ≤ xs.length) (x : Addr)
    (hx : n < xs.length → x = ⟨b, o + n * U.sz τ, none⟩) : VRel E St w (.slice (some x) (xs.length - n) (cap - n)) (.dat τ (xs.drop n)) := by
  rcases Nat.lt_or_ge n xs.length with h1 | h1
  · rw [hx h1]
    rcases h.inv with ⟨rfl, _⟩ | ⟨b', o', cap', cv, hv, hcap, g1, g2⟩
    · simp at h1
    · simp at hv; obtain ⟨⟨rfl, rfl⟩, rfl⟩ := hv
      rw [show xs.length - n = (xs.drop n).length from by simp]
      refine .dat τ (xs.drop n) b _ _ (fun i j => cv (n + i) j) (by simp; omega) (fun i j hi hj => ?_) (fun i hi j d hd => ?_)
      · simp at hi
        have := g1 (n + i) j (by omega) hj
        rw [show o + n * U.sz τ + i * U.sz τ + j = o + (n + i) * U.sz τ + j from by rw [Nat.add_mul]; omega]; exact this
      · simp at hi
        refine g2 (n + i) (by omega) j d ?_
        rw [List.getElem_drop] at hd; exact hd
  · have : xs.length - n = 0 := by omega
    rw [this, List.drop_of_length_le h1]
    exact .nil τ _ _

theorem take_rel {E : Enc U} {St : Nat → Nat → Prop} {τ : U.Ty} {xs : List (U.Den τ)} {x : Option Addr} {cap n : Nat} (h : VRel E St w (.slice x xs.length cap) (.dat τ xs)) (hn : n ≤ xs.length) :
    VRel E St w (.slice x n cap) (.dat τ (xs.take n)) := by
  rcases h.inv with ⟨rfl, _⟩ | ⟨b', o', cap', cv, hv, hcap, g1, g2⟩
  · simp at hn; subst hn; exact .nil τ _ _
  · simp at hv; obtain ⟨rfl, rfl⟩ := hv
    have hl : (xs.take n).length = n := by simp; omega
    have e : VRel E St w (.slice (some ⟨b', o', none⟩) (xs.take n).length cap) (.dat τ (xs.take n)) := by
      refine .dat τ (xs.take n) b' o' _ cv (by omega) (fun i j hi hj => g1 i j (by omega) hj) (fun i hi j d hd => ?_)
      refine g2 i (by omega) j d ?_
      rw [List.getElem_take] at hd; exact hd
    rw [hl] at e; exact e

theorem run_sliceBound {k : IntKind} {n : Int} {y : Nat} {code : BoundsCode} (h0 : 0 ≤ n) (h1 : n ≤ (y : Int)) (w : World) : (Instr.sliceBound (.int k n) y code).run P w = .ok n.toNat w := by
  simp [Instr.sliceBound, asIntOf, h0, h1]

theorem run_sl {t e : TypeId} {i : TypeInfo} (hu : P.underlying t = some (.slice e)) (hi : P.info? e = some i) (p : Option Addr) (len cap l h : Nat) (lo hi' mx : Option Value) (m : Nat) (w : World)
    (hb : (Instr.sliceBounds true len cap lo hi' mx).run P w = .ok (l, h, m) w) :
    (Instr.sliceAt t (.slice p len cap) lo hi' mx).run P w = .ok (.slice (if m = l then p else p.map (·.add (l * i.size))) (h - l) (m - l)) w := by
  simp [Instr.sliceAt, Instr.slice, run_underlying hu, hb, run_sizeOf_info hi]

theorem map_add_zero (p : Option Addr) : p.map (·.add 0) = p := by cases p <;> simp [Addr.add]

theorem evArgs_rel (hF : FnsOK P M) (h : Sim P M.E fr g s a w) : ∀ {xs : List Operand} {ts : List TypeId} {al : List (A U)}, evArgs M s xs ts = some al → All2 (ARel P M.E g s.ob w) (xs.map a.eval) al
  | [], _, al, he => by simp [evArgs] at he; subst he; trivial
  | x :: xs, ts, al, he => by
    simp only [evArgs] at he
    split at he
    · rename_i y ys hy hys
      simp at he; subst he
      exact ⟨h.evT hF hy, evArgs_rel hF h hys⟩
    · simp at he

theorem asInts_rel {E : Enc U} {ob : List (Option (Ob U))} : ∀ {vs : List Value} {al : List (A U)} {ns : List Int}, All2 (ARel P E g ob w) vs al → asInts al = some ns → vs = ns.map (Value.int .i64)
  | [], [], ns, _, he => by simp [asInts] at he; subst he; rfl
  | v :: vs, x :: al, ns, hr, he => by
    unfold asInts at he
    split at he
    · rename_i h1; simp at h1
    · rename_i n r h1
      simp at h1; obtain ⟨rfl, rfl⟩ := h1
      cases hi : asInts al with
      | none => simp [hi] at he
      | some ms =>
        simp [hi] at he; subst he
        have h0 : v = .int .i64 n := hr.1.1
        rw [h0, asInts_rel hr.2 hi]; rfl
    · simp at he

theorem ints_one {E : Enc U} {ob : List (Option (Ob U))} : ∀ {vs : List Value} {al : List (A U)} {ns : List Int}, All2 (ARel P E g ob w) vs al → asInts al = some ns → ∀ n ∈ ns, oneC (.int .i64 n) = true
  | [], [], ns, _, he => by simp [asInts] at he; subst he; simp
  | v :: vs, x :: al, ns, hr, he => by
    unfold asInts at he
    split at he
    · rename_i h1; simp at h1
    · rename_i n r h1
      simp at h1; obtain ⟨rfl, rfl⟩ := h1
      cases hi : asInts al with
      | none => simp [hi] at he
      | some ms =>
        simp [hi] at he; subst he
        intro m hm
        rcases List.mem_cons.1 hm with rfl | hm
        · exact hr.1.2
        · exact ints_one hr.2 hi m hm
    · simp at he
theorem fold_one {f : Int → Int → Int} (hf : ∀ a b, f a b = a ∨ f a b = b) : ∀ {ns : List Int} {n : Int}, (∀ m ∈ n :: ns, oneC (.int .i64 m) = true) → oneC (.int .i64 (ns.foldl f n)) = true
  | [], n, h => h n (by simp)
  | m :: ns, n, h => by
    refine fold_one hf (ns := ns) (n := f n m) fun q hq => ?_
    rcases List.mem_cons.1 hq with rfl | hq
    · rcases hf n m with e | e <;> rw [e]
      · exact h _ (by simp)
      · exact h _ (by simp)
    · exact h q (by simp [hq])
theorem run_min (w : World) : ∀ (r : List Int) (n : Int), ((r.map (Value.int .i64)).foldlM Builtin.min2 (.int .i64 n)).run P w = .ok (.int .i64 (r.foldl (fun a b => if b < a then b else a) n)) w
  | [], n => by simp
  | m :: r, n => by
    simp only [List.map_cons, List.foldlM_cons, Builtin.min2, Sem.run_bind, Sem.run_pure, Result.andThen_ok, List.foldl_cons]
    exact run_min w r _
theorem run_max (w : World) : ∀ (r : List Int) (n : Int), ((r.map (Value.int .i64)).foldlM Builtin.max2 (.int .i64 n)).run P w = .ok (.int .i64 (r.foldl (fun a b => if a < b then b else a) n)) w
  | [], n => by simp
  | m :: r, n => by
    simp only [List.map_cons, List.foldlM_cons, Builtin.max2, Sem.run_bind, Sem.run_pure, Result.andThen_ok, List.foldl_cons]
    exact run_max w r _

theorem min_sound (hF : FnsOK P M) (h : Sim P M.E fr g s a w) {c : Call} {r : Res U} (ho : o.op = .call c) (hc : c.callee = .builtin .min) (he : effBuiltin s M o .min c = some r) : Done P o a w (Goal P M fr s o r) := by
  unfold effBuiltin at he
  dsimp only at he
  split at he
  · rename_i n ns hx
    rw [ok_eq he]
    cases hal : evArgs M s c.args.toList c.argTypes.toList with
    | none => simp [hal] at hx
    | some al =>
      simp [hal] at hx
      have hv := asInts_rel (evArgs_rel hF h hal) hx
      refine pure_sound h (v := .int .i64 (ns.foldl (fun a b => if b < a then b else a) n)) ?_ ⟨rfl, fold_one (fun a b => by split <;> simp) (ints_one (evArgs_rel hF h hal) hx)⟩
      simp only [execOp, ho, resolve, hc, invoke, builtin, Builtin.min_, Sem.run_bind, Sem.run_pure, Result.andThen_ok, Array.toList_map, hv, List.map_cons, run_min]
  · simp at he
theorem max_sound (hF : FnsOK P M) (h : Sim P M.E fr g s a w) {c : Call} {r : Res U} (ho : o.op = .call c) (hc : c.callee = .builtin .max) (he : effBuiltin s M o .max c = some r) : Done P o a w (Goal P M fr s o r) := by
  unfold effBuiltin at he
  dsimp only at he
  split at he
  · rename_i n ns hx
    rw [ok_eq he]
    cases hal : evArgs M s c.args.toList c.argTypes.toList with
    | none => simp [hal] at hx
    | some al =>
      simp [hal] at hx
      have hv := asInts_rel (evArgs_rel hF h hal) hx
      refine pure_sound h (v := .int .i64 (ns.foldl (fun a b => if a < b then b else a) n)) ?_ ⟨rfl, fold_one (fun a b => by split <;> simp) (ints_one (evArgs_rel hF h hal) hx)⟩
      simp only [execOp, ho, resolve, hc, invoke, builtin, Builtin.max_, Sem.run_bind, Sem.run_pure, Result.andThen_ok, Array.toList_map, hv, List.map_cons, run_max]
  · simp at he

end Go.Proofs.Ytohpgnpjijpedaa.B
