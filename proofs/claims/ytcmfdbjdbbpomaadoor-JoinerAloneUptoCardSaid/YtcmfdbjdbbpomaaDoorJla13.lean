/- Part 13 of the proof: Lput Lsortq Lrank. -/
import Derived.Sort.Grow
import Derived.Shelf.SlSortCmp.NoneTotal
import Derived.Test.YtcmfdbjdbbpomaaDoorJla12
namespace Go.Proofs.YtcmfdbjdbbpomaaDoor.B
open Go Go.RowKit Go.Shelf Go.Sort
set_option maxRecDepth 1000000
set_option linter.unusedVariables false
structure PutR (w w' : World) (b off : Nat) (us : List Value) : Prop where
  os : w'.os = w.os
  tape : w'.tape = w.tape
  output : w'.output = w.output
  size : w.heap.size ≤ w'.heap.size
  block : ∀ k, k < w.heap.size → k ≠ b → w'.heap[k]? = w.heap[k]?
  cell : ∀ (i : Nat) v, us[i]? = some v → w'.cell? ⟨b, off + i, none⟩ = some v
  other : ∀ p : Addr, p.block < w.heap.size → (p.off < off ∨ off + us.length ≤ p.off ∨ p.block ≠ b) → w'.cell? p = w.cell? p
  frozen : ∀ p : Addr, p.block < w.heap.size → stuck w' p = stuck w p
theorem grow_block (w : World) (os : Array Obj) {k : Nat} (h : k < w.heap.size) : (grow w os).heap[k]? = w.heap[k]? := by
  unfold grow; exact Array.getElem?_append_left h
theorem grow_cell (w : World) (os : Array Obj) {p : Addr} (h : p.block < w.heap.size) : (grow w os).cell? p = w.cell? p := by
  unfold World.cell?; rw [grow_block w os h]
theorem stuck_mapBlock (w : World) (blk : Nat) (f : Array Value → Array Value) (hf : ∀ c, (f c).size = c.size) (p : Addr) : stuck (mapBlock w blk f) p = stuck w p := by
  have h1 : ∀ a, (mapBlock w blk f).frozen? a = w.frozen? a := fun a => frozen?_mapBlock w blk f a
  have h2 : (mapBlock w blk f).shape? p.block = w.shape? p.block := by
    simp only [mapBlock, World.shape?, Array.getElem?_modify]
    by_cases hk : blk = p.block
    · simp only [hk, if_true]
      cases w.heap[p.block]? with
      | none => rfl
      | some o => cases o <;> simp [onCells, hf]
    · simp [hk]
  unfold stuck
  rw [h1, h2]
  simp only [h1]
theorem putR_of {α : Type} [Inhabited α] {enc : α → Value} {w : World} {b off n : Nat} {os : Array Obj} {d0 d : Array α} (hb : b < w.heap.size) (hH : Holds enc w b off d0) (hs : d.size = d0.size) :
    PutR w (grow (putRow enc (Sort.ahead w n) b off d) os) b off (d.toList.map enc) := by
  have hsz : (putRow enc (Sort.ahead w n) b off d).heap.size = w.heap.size := by rw [size_putRow]; rfl
  refine ⟨rfl, rfl, rfl, ?_, fun k hk hne => ?_, fun i v hv => ?_, fun p hp ho => ?_, fun p hp => ?_⟩
  · rw [size_grow, hsz]; omega
  · rw [grow_block _ _ (by rw [hsz]; exact hk)]
    unfold putRow mapBlock Sort.ahead
    simp only [Array.getElem?_modify, if_neg (Ne.symm hne)]
  · rw [grow_cell _ _ (by rw [hsz]; exact hb)]
    rw [List.getElem?_map] at hv
    have hi : i < d.size := by
      rcases Nat.lt_or_ge i d.size with g | g
      · exact g
      · rw [List.getElem?_eq_none (by simpa using g)] at hv; simp at hv
    have hH' : Holds enc (Sort.ahead w n) b off d0 := hH
    rw [cell?_putRow enc (Sort.ahead w n) b off d0 d hH' hs i hi]
    rw [List.getElem?_eq_getElem (by simpa using hi)] at hv
    rw [getElem!_pos d i hi]
    simpa using hv
  · rw [grow_cell _ _ (by rw [hsz]; exact hp)]
    rw [cell?_putRow_other enc (Sort.ahead w n) b off d p (by simp only [List.length_map, Array.length_toList] at ho; omega)]
    rfl
  · rw [stuck_heap (grow_block _ _ (by rw [hsz]; exact hp))]
    exact stuck_mapBlock (Sort.ahead w n) b _ (fun c => by unfold putCells; simp) p
theorem FExt.put {fr : Fr} {w' : World} {b off : Nat} {us : List Value} (hst : PutR fr.w0 w' b off us) (ho : ∀ (i : Nat), i < us.length → fr.own b (off + i)) (hne : 0 < us.length) (hld : Laid fr.w0) (hnl : ∀ b o, LB b = true → ¬ fr.own b o) : FExt fr w' := by
  refine ⟨hst.os, hst.tape, hst.output, hst.size, fun k hk hn => ?_, fun b' o hk hn => ?_, fun b' o hk hn => hst.frozen _ hk, hld.on hst.size (fun k hl => hst.block k (hld.lt k hl) fun e => hnl k (off + 0) hl (e ▸ ho 0 hne)), fun b hl => hld.lt b hl, hnl⟩
  · by_cases e : k = b
    · subst e
      exact (hn _ (ho 0 hne)).elim
    · exact hst.block k hk e
  · refine hst.other _ hk ?_
    by_cases e : b' = b
    · subst e
      by_cases h1 : o < off
      · exact .inl h1
      · by_cases h2 : off + us.length ≤ o
        · exact .inr (.inl h2)
        · have h3 := ho (o - off) (by omega)
          rw [show off + (o - off) = o from by omega] at h3; exact (hn h3).elim
    · exact .inr (.inr e)
theorem ObRel.put {g : G} {w w' : World} {k ver : Nat} {live : Bool} {τ : Ty} (h1 : sz τ = 1) {xs ys : List (Den τ)} {b off cap : Nat} {us : List Value} (htk : g.tk k = (some ⟨b, off, none⟩, cap)) (hb : b < w.heap.size) (hown : ∀ b o x, g.ω b o = some x → b < w.heap.size)
    (hO : ObAt En g w k ⟨ver, τ, xs, some 0, live⟩ b off cap (fun i j => (w.cell? ⟨b, off + i * sz τ + j, none⟩).getD undef))
    (hst : PutR w w' b off us) (hul : us.length = xs.length) (hyl : ys.length ≤ us.length) (hcap : xs.length ≤ cap) (hbig : xs.length ≤ 9223372036854775807)
    (hrel : ∀ i (hi : i < ys.length) d, (enc τ ys[i])[0]? = some d → ∃ u, us[i]? = some u ∧ VRel En g.St w u d) :
    ObRel En g w' k ⟨ver, τ, ys, some 0, live⟩ ∧ Keeps g.St w g.St w' := by
  have hmine : ∀ i, i < us.length → g.ω b (off + i) = some (.obj k) ∧ stuck w ⟨b, off + i, none⟩ = false := by
    intro i hi
    have := (hO.cell i 0 (by show i < xs.length; omega) (by show 0 < sz τ; omega)).2
    have e : off + i * Un.sz τ + 0 = off + i := by show off + i * sz τ + 0 = _; rw [h1]; omega
    rw [e] at this
    exact this.2 (Nat.zero_le _)
  have hk : Keeps g.St w g.St w' := fun b' o hs => ⟨hs, hst.other ⟨b', o, none⟩ (hown _ _ _ hs) (by
    by_cases e : b' = b
    · subst e
      by_cases h2 : o < off
      · exact .inl h2
      · by_cases h3 : off + us.length ≤ o
        · exact .inr (.inl h3)
        · have := (hmine (o - off) (by omega)).1
          rw [show off + (o - off) = o by omega] at this
          have hs' : g.ω b' o = some .st := hs
          rw [this] at hs'; simp at hs'
    · exact .inr (.inr e))⟩
  refine ⟨⟨⟨⟨by rw [htk]; show ys.length ≤ cap; omega, by show ys.length ≤ _; omega⟩, fun f hf => by simp at hf; subst hf; exact Nat.zero_le _⟩, fun _ => ⟨b, off, fun i j => us.getD i undef, by rw [htk], ⟨?_, ?_, ?_⟩⟩⟩, hk⟩
  · intro i j hi hj
    have hi' : i < ys.length := hi
    have hj' : j < sz τ := hj
    obtain rfl : j = 0 := by omega
    have e0 : off + i * Un.sz τ + 0 = off + i := by show off + i * sz τ + 0 = _; rw [h1]; omega
    show w'.cell? ⟨b, off + i * Un.sz τ + 0, none⟩ = _ ∧ Mode g w' k (some 0) i b (off + i * Un.sz τ + 0)
    rw [e0]
    refine ⟨?_, fun h => absurd h (Nat.not_lt_zero _), fun _ => ⟨(hmine i (by omega)).1, by rw [hst.frozen _ hb]; exact (hmine i (by omega)).2⟩⟩
    rw [List.getD_eq_getElem?_getD, List.getElem?_eq_getElem (by omega)]
    exact hst.cell _ _ (List.getElem?_eq_getElem (by omega))
  · intro i hi j d hd
    have hj : j < sz τ := by have h0 := (List.getElem?_eq_some_iff.1 hd).1; have := enc_len τ (ys[i]'hi); exact this ▸ h0
    obtain rfl : j = 0 := by omega
    obtain ⟨u, h2, h3⟩ := hrel i hi d hd
    show VRel En g.St w' (us.getD i undef) d
    rw [List.getD_eq_getElem?_getD, h2]
    exact h3.mono hk
  · intro hl x hx hx'
    rw [htk] at hx'
    have hx1 : ys.length * sz τ ≤ x := hx
    have hx2 : x < cap * sz τ := hx'
    rw [h1] at hx1 hx2
    rcases Nat.lt_or_ge x us.length with g1 | g1
    · exact ⟨(hmine x g1).1, ⟨us[x], hst.cell _ _ (List.getElem?_eq_getElem g1)⟩, by rw [hst.frozen _ hb]; exact (hmine x g1).2⟩
    · obtain ⟨m1, ⟨v, m2⟩, m3⟩ := hO.spare hl x (by show xs.length * sz τ ≤ x; rw [h1]; omega) (by show x < cap * sz τ; rw [h1]; omega)
      exact ⟨m1, ⟨v, by rw [hst.other ⟨b, off + x, none⟩ hb (.inr (.inl (by show off + us.length ≤ off + x; omega)))]; exact m2⟩, by rw [hst.frozen _ hb]; exact m3⟩
theorem ObRel.open1 {g : G} {w : World} {k ver : Nat} {live : Bool} {τ : Ty} {xs : List (Den τ)} (h : ObRel En g w k ⟨ver, τ, xs, some 0, live⟩) (hne : xs ≠ []) :
    ∃ b off, g.tk k = (some ⟨b, off, none⟩, (g.tk k).2) ∧ xs.length ≤ (g.tk k).2 ∧ ObAt En g w k ⟨ver, τ, xs, some 0, live⟩ b off (g.tk k).2 (fun i j => (w.cell? ⟨b, off + i * sz τ + j, none⟩).getD undef) := by
  obtain ⟨⟨⟨hcap, hmax⟩, _⟩, hrow⟩ := h
  have hpos : 0 < xs.length := List.length_pos_iff.2 hne
  have hc : xs.length ≤ (g.tk k).2 := hcap
  obtain ⟨b, off, cv, hbase, hA⟩ := hrow (by omega)
  have hcv : ∀ i j, i < xs.length → j < sz τ → (w.cell? ⟨b, off + i * sz τ + j, none⟩).getD undef = cv i j := fun i j hi hj => by
    have := (hA.cell i j hi hj).1
    have e : w.cell? ⟨b, off + i * sz τ + j, none⟩ = some (cv i j) := this
    rw [e]; rfl
  refine ⟨b, off, by rw [← hbase], hc, ⟨fun i j hi hj => ?_, fun i hi j d hd => ?_, hA.spare⟩⟩
  · have := hA.cell i j hi hj
    rw [hcv i j hi hj]; exact this
  · have hj : j < sz τ := by have h0 := (List.getElem?_eq_some_iff.1 hd).1; have := enc_len τ (xs[i]'hi); exact this ▸ h0
    rw [hcv i j hi hj]; exact hA.rel i hi j d hd
theorem vrel_s {St : Nat → Nat → Prop} {w : World} {v x : Value} (h : VRel En St w v (.s x)) : v = x ∧ oneC x = true := by cases h with | s _ h => exact ⟨rfl, h⟩
theorem ObAt.holds {g : G} {w : World} {k ver : Nat} {live : Bool} {xs : List Int} {b off cap : Nat} {cv : Nat → Nat → Value} (hA : ObAt En g w k ⟨ver, .int, xs, some 0, live⟩ b off cap cv) :
    Holds (Value.int .i64) w b off xs.toArray ∧ ∀ x ∈ xs, oneC (.int .i64 x) = true := by
  have key : ∀ i (hi : i < xs.length), cv i 0 = .int .i64 xs[i] ∧ oneC (.int .i64 xs[i]) = true := fun i hi => by
    have := hA.rel i hi 0 (.s (.int .i64 xs[i])) rfl
    exact vrel_s this
  refine ⟨fun j hj => ?_, fun x hx => ?_⟩
  · have hj' : j < xs.length := by simpa using hj
    have hc := hA.cell j 0 hj' (show (0 : Nat) < 1 from Nat.one_pos)
    have e : off + j * Un.sz .int + 0 = off + j := by show off + j * 1 + 0 = _; omega
    rw [e] at hc
    refine ⟨?_, stuck_no (hc.2.2 (Nat.zero_le _)).2⟩
    rw [hc.1, (key j hj').1, getElem!_pos _ j hj]
    simp
  · obtain ⟨i, hi, rfl⟩ := List.getElem_of_mem hx
    exact (key i hi).2
end Go.Proofs.YtcmfdbjdbbpomaaDoor.B
namespace Go.Proofs.YtcmfdbjdbbpomaaDoor.B
open Go Go.RowKit Go.Shelf Go.Lib Go.Sort
set_option maxRecDepth 1000000
set_option linter.unusedVariables false
noncomputable section
def sortQ {β : Type} (p : β → β → Int) (l : List β) : List β := l.mergeSort fun a b => !decide (p b a < 0)
structure uniQ {β : Type} (p : β → β → Int) (l : List β) : Prop where
  irr : ∀ x ∈ l, ¬ p x x < 0
  tr : ∀ x ∈ l, ∀ y ∈ l, ∀ z ∈ l, p x y < 0 → p y z < 0 → p x z < 0
  ntr : ∀ x ∈ l, ∀ y ∈ l, ∀ z ∈ l, ¬ p x y < 0 → ¬ p y z < 0 → ¬ p x z < 0
  eq : ∀ x ∈ l, ∀ y ∈ l, ¬ p x y < 0 → ¬ p y x < 0 → x = y
theorem sortQ_len {β : Type} (p : β → β → Int) (l : List β) : (sortQ p l).length = l.length := List.length_mergeSort _
theorem sortQ_perm {β : Type} (p : β → β → Int) (l : List β) : (sortQ p l).Perm l := List.mergeSort_perm _ _
def fq_int (o : Int → Int → Prop) (p : Int → Int → Int) : FV Un := fun args => match args with
  | [x0, x1] => (dI .i64 (.d x0)).bind fun a0 => (dI .i64 (.d x1)).bind fun a1 => some ([o a0 a1, True, True, True, True], [.v (.s (.int .i64 (p a0 a1)))])
  | _ => none
def qo_int (φ : FV Un) : Int → Int → Prop := fun a0 a1 => match φ [.v (.s (.int .i64 a0)), .v (.s (.int .i64 a1))] with
  | some ([q, _, _, _, _], _) => q
  | _ => False
def qf_int (φ : FV Un) : Int → Int → Int := fun a0 a1 => match φ [.v (.s (.int .i64 a0)), .v (.s (.int .i64 a1))] with
  | some (_, [.v (.s (.int _ b))]) => b
  | _ => 0
theorem qo_fq_int (o : Int → Int → Prop) (p : Int → Int → Int) : qo_int (fq_int o p) = o := by funext a b; unfold qo_int fq_int; simp only [dI_mk, Option.bind_some]
theorem qf_fq_int (o : Int → Int → Prop) (p : Int → Int → Int) : qf_int (fq_int o p) = p := by funext a b; unfold qf_int fq_int; simp only [dI_mk, Option.bind_some]
def fq_pair (o : Int × Int → Int × Int → Prop) (p : Int × Int → Int × Int → Int) : FV Un := fun args => match args with
  | [x0, x1] => (dS .pair (.d x0)).bind fun a0 => (dS .pair (.d x1)).bind fun a1 => some ([o a0 a1, True, True, True, True], [.v (.s (.int .i64 (p a0 a1)))])
  | _ => none
def qo_pair (φ : FV Un) : Int × Int → Int × Int → Prop := fun a0 a1 => match φ [.agg (enc .pair a0), .agg (enc .pair a1)] with
  | some ([q, _, _, _, _], _) => q
  | _ => False
def qf_pair (φ : FV Un) : Int × Int → Int × Int → Int := fun a0 a1 => match φ [.agg (enc .pair a0), .agg (enc .pair a1)] with
  | some (_, [.v (.s (.int _ b))]) => b
  | _ => 0
theorem qo_fq_pair (o : Int × Int → Int × Int → Prop) (p : Int × Int → Int × Int → Int) : qo_pair (fq_pair o p) = o := by funext a b; unfold qo_pair fq_pair; rfl
theorem qf_fq_pair (o : Int × Int → Int × Int → Prop) (p : Int × Int → Int × Int → Int) : qf_pair (fq_pair o p) = p := by funext a b; unfold qf_pair fq_pair; rfl
theorem gr_of {w w' : World} (h : Ext w w') (hd : w.drawn ≤ w'.drawn) : ∃ q os, w' = grow (w.drewN q) os := by
  refine ⟨w'.drawn - w.drawn, w'.heap.extract w.heap.size w'.heap.size, ?_⟩
  have h1 := h.os
  have h2 := h.tape
  have h3 := h.output
  have h4 := h.size
  have h5 := fun k hk => h.block (k := k) hk
  clear h
  obtain ⟨heap, tape, drawn, os, output⟩ := w
  obtain ⟨heap', tape', drawn', os', output'⟩ := w'
  simp only at h1 h2 h3 h4 h5 hd
  subst h1 h2 h3
  have e : heap' = heap ++ heap'.extract heap.size heap'.size := by
    apply Array.ext_getElem?
    intro i
    rw [Array.getElem?_append]
    split
    · rename_i hi; exact h5 i hi
    · rename_i hi
      rw [Array.getElem?_extract]
      rw [Nat.min_self]
      split
      · congr 1; omega
      · rw [Array.getElem?_eq_none (by omega)]
  show World.mk heap' tape' drawn' os' output' = World.mk (heap ++ heap'.extract heap.size heap'.size) tape' (drawn + (drawn' - drawn)) os' output'
  rw [← e, show drawn + (drawn' - drawn) = drawn' by omega]
theorem swoQ {β : Type} {p : β → β → Int} {l : List β} (h : uniQ p l) : SWO (ltOf fun x y : {x : β // x ∈ l} => p x.1 y.1) where
  irrefl := fun x => by unfold ltOf; exact decide_eq_false (h.irr _ x.2)
  trans := fun x y z h1 h2 => by unfold ltOf at *; exact decide_eq_true (h.tr _ x.2 _ y.2 _ z.2 (of_decide_eq_true h1) (of_decide_eq_true h2))
  ntrans := fun x y z h1 h2 => by unfold ltOf at *; exact decide_eq_false (h.ntr _ x.2 _ y.2 _ z.2 (of_decide_eq_false h1) (of_decide_eq_false h2))
theorem sortQ_map {β : Type} (p : β → β → Int) (l : List β) : ((l.attach).mergeSort fun x y => !(ltOf fun x y : {x : β // x ∈ l} => p x.1 y.1) y x).map Subtype.val = sortQ p l := by
  unfold sortQ
  refine (List.map_mergeSort (r := fun x y : {x : β // x ∈ l} => !(ltOf fun x y : {x : β // x ∈ l} => p x.1 y.1) y x) (s := fun a b => !decide (p b a < 0)) (f := Subtype.val) (l := l.attach) (fun a _ b _ => rfl)).trans ?_
  rw [List.attach_map_subtype_val]
set_option maxHeartbeats 1000000 in
theorem okU_int_aux {p : Int → Int → Int} {o : Int → Int → Prop} {xs : List Int} (hlen : xs.length ≤ 1000000000) (ho : ∀ x ∈ xs, ∀ y ∈ xs, o x y) (hU : uniQ p xs) {w : World} {g : G} {k ver : Nat} {live : Bool} {f : FuncId} {caps : Array Value}
    (hO : ObRel En g w k ⟨ver, .int, xs, some 0, live⟩) (hown : ∀ b o x, g.ω b o = some x → b < w.heap.size) (hbody : HasBody Tryd.prog f) (hg : Gives Tryd.prog En f caps g.St w (fq_int o p)) (hld : Laid w) (hnl : ∀ b o, LB b = true → ¬ g.ω b o = some (.obj k)) :
    Calls Tryd.prog 35 #[.slice (g.tk k).1 xs.length (g.tk k).2, .func (.func f) #[] caps] w fun e w' => e = .returned (.tuple #[]) ∧ (sortQ p xs).length = xs.length ∧ FExt ⟨w, fun b i => g.ω b i = some (.obj k), g.St, 0, g.β⟩ w' ∧ ObRel En g w' k ⟨ver, .int, sortQ p xs, some 0, live⟩ := by
  have hsl := sortQ_len p xs
  by_cases hne : xs = []
  · subst hne
    refine (Tryd.slices_SortFunc_none_f35 (α := Int) (g.tk k).1 (g.tk k).2 _ w).mono ?_
    rintro e w' ⟨rfl, rfl⟩
    exact ⟨rfl, hsl, ⟨rfl, rfl, rfl, Nat.le_refl _, fun _ _ _ => rfl, fun _ _ _ _ => rfl, fun _ _ _ _ => rfl, hld, fun b hl => hld.lt b hl, hnl⟩, by simpa [sortQ] using hO⟩
  · obtain ⟨b, off, htk, hcap, hA⟩ := hO.open1 hne
    obtain ⟨hH, h1⟩ := hA.holds
    have hpos : 0 < xs.length := List.length_pos_iff.2 hne
    have hb : b < w.heap.size := lt_of_cell (hA.cell 0 0 hpos (show (0 : Nat) < 1 from Nat.one_pos)).1
    have h0 : (g.tk k).1 = some ⟨b, off, none⟩ := by rw [htk]
    rw [h0]
    haveI : Inhabited {x : Int // x ∈ xs} := ⟨⟨xs[0], List.getElem_mem hpos⟩⟩
    let enc' : {x : Int // x ∈ xs} → Value := fun x => .int .i64 x.1
    let cf : {x : Int // x ∈ xs} → {x : Int // x ∈ xs} → Int := fun x y => p x.1 y.1
    let d : Array {x : Int // x ∈ xs} := xs.attach.toArray
    have hds : d.size = xs.length := by simp [d]
    have hdj : ∀ j (hj : j < d.size), d[j]!.1 = xs.toArray[j]! := fun j hj => by
      rw [getElem!_pos d j hj, getElem!_pos xs.toArray j (by rw [hds] at hj; simpa using hj)]
      simp [d]
    have hH' : Holds enc' w b off d := fun j hj => by
      have := hH j (by rw [hds] at hj; simpa using hj)
      rw [← hdj j hj] at this
      exact this
    have hmine : ∀ i, i < xs.length → g.ω b (off + i) = some (.obj k) := fun i hi => by
      have hc := (hA.cell i 0 hi (show (0 : Nat) < 1 from Nat.one_pos)).2.2 (Nat.zero_le _)
      have e : off + i * Un.sz Ty.int + 0 = off + i := by show off + i * 1 + 0 = off + i; omega
      rw [e] at hc
      exact hc.1
    have hcmp : CmpLays1 Tryd.prog f caps enc' cf b off d.size w := fun m os dk hs x y => by
      have hpr : PutR w (sortWorld enc' w b off m dk os) b off (dk.toList.map enc') := putR_of (n := m) (os := os) hb hH' hs
      have hdl : (dk.toList.map enc').length = xs.length := by rw [List.length_map, Array.length_toList, hs, hds]
      have hk : Keeps g.St w g.St (sortWorld enc' w b off m dk os) := fun b' o' hs' => ⟨hs', hpr.other _ (hown b' o' _ hs') (by
        by_cases e1 : b' = b
        · subst e1
          by_cases e2 : o' < off
          · exact .inl e2
          · by_cases e3 : off + xs.length ≤ o'
            · right; left; rw [hdl]; exact e3
            · exfalso
              have hc := hmine (o' - off) (by omega)
              rw [show off + (o' - off) = o' by omega] at hc
              have h9 : g.ω b' o' = some .st := hs'
              rw [h9] at hc; simp at hc
        · exact .inr (.inr e1))⟩
      have hldW : Laid (sortWorld enc' w b off m dk os) := hld.on hpr.size fun k' hl => hpr.block k' (hld.lt k' hl) fun e => hnl k' (off + 0) hl (by rw [e]; exact hmine 0 hpos)
      refine (hg g.St _ hk (fun b' o' hs' => Nat.lt_of_lt_of_le (hown b' o' _ hs') hpr.size) hldW [.v (.s (.int .i64 x.1)), .v (.s (.int .i64 y.1))] [o x.1 y.1, True, True, True, True] [.v (.s (.int .i64 (p x.1 y.1)))]
        (by unfold fq_int; simp only [dI_mk, Option.bind_some]) (fun q hq => by
          simp only [List.mem_cons, List.not_mem_nil, or_false] at hq
          rcases hq with rfl | rfl | rfl | rfl | rfl
          · exact ho _ x.2 _ y.2
          all_goals trivial) [enc' x, enc' y] ⟨.s _ (h1 _ x.2), .s _ (h1 _ y.2), trivial⟩).mono ?_
      rintro e w' ⟨v, rfl, ⟨hx, St', -, -, hr⟩, hq⟩
      exact ⟨by rw [(vrel_s hr).1], gr_of hx (hq rfl)⟩
    have eg : ∀ args W, (callFunc f args).run Tryd.prog W = .ok (.enter f args) W := fun args W => by
      obtain ⟨fn, c, q1, q2, q3⟩ := hbody
      have hn : fn.name ≠ "runtime.NumGoroutine" := by simpa using q3
      simp [callFunc, q1, q2, hn]
    have hw := Any.slices_SortFunc_total Tryd.laysSlF6_f35 enc' (fun x => rfl) cf (swoQ hU) f caps b off (g.tk k).2 d w eg hcmp hH' hb (by omega) (fun x y a1 a2 => Subtype.ext (hU.eq _ x.2 _ y.2 (of_decide_eq_false a1) (of_decide_eq_false a2)))
    rw [hds] at hw
    refine hw.mono ?_
    rintro e w' ⟨rfl, n, os, rfl⟩
    have hdl : d.toList = xs.attach := by simp [d]
    have hp : PutR w (sortWorld enc' w b off n (d.toList.mergeSort fun x y => !(ltOf cf) y x).toArray os) b off ((d.toList.mergeSort fun x y => !(ltOf cf) y x).toArray.toList.map enc') := putR_of (n := n) (os := os) hb hH' (by simp [List.length_mergeSort])
    have hus : (d.toList.mergeSort fun x y => !(ltOf cf) y x).toArray.toList.map enc' = (sortQ p xs).map (Value.int .i64) := by
      rw [← sortQ_map p xs, List.map_map, hdl]
      rfl
    rw [hus] at hp
    have hul : ((sortQ p xs).map (Value.int .i64)).length = xs.length := by rw [List.length_map, hsl]
    obtain ⟨r1, _⟩ := ObRel.put (w' := _) (ys := sortQ p xs) (τ := .int) rfl htk hb hown hA hp hul (by rw [hul, hsl]; exact Nat.le_refl _) hcap (by omega) (fun i hi d' hd => by
      have hd' : some (V.s (.int .i64 (sortQ p xs)[i])) = some d' := hd
      cases hd'
      exact ⟨.int .i64 (sortQ p xs)[i], by rw [List.getElem?_map, List.getElem?_eq_getElem hi]; rfl, .s _ (h1 _ ((sortQ_perm p xs).subset (List.getElem_mem hi)))⟩)
    refine ⟨rfl, hsl, ?_, r1⟩
    exact FExt.put (fr := ⟨w, fun b i => g.ω b i = some (.obj k), g.St, 0, g.β⟩) hp (fun i hi => hmine i (by rw [hul] at hi; exact hi)) (by rw [hul]; exact hpos) hld hnl
def U_sortq_int : FnU Un := fun τ xs args => match τ, xs, args with
  | .int, xs, [x1] => (dF x1).bind fun φ => some ([xs.length ≤ 1000000000, φ = fq_int (qo_int φ) (qf_int φ), (∀ x ∈ xs, ∀ y ∈ xs, qo_int φ x y), uniQ (qf_int φ) xs], sortQ (qf_int φ) xs)
  | _, _, _ => none
theorem okU_sortq_int : UpOK 35 U_sortq_int := by
  intro τ xs ds ob ys h hob
  unfold U_sortq_int at h
  split at h
  · rename_i xs x1
    simp only [Option.bind_eq_some_iff, Option.some.injEq, Prod.mk.injEq] at h
    obtain ⟨φ, e1, rfl, rfl⟩ := h
    obtain rfl := dF_eq e1
    have hlen : xs.length ≤ 1000000000 := hob _ (by simp)
    have hφ : φ = fq_int (qo_int φ) (qf_int φ) := hob _ (by simp)
    have ho : ∀ x ∈ xs, ∀ y ∈ xs, qo_int φ x y := hob _ (by simp)
    have hU : uniQ (qf_int φ) xs := hob _ (by simp)
    clear hob
    generalize qo_int φ = o at hφ ho
    generalize qf_int φ = p at hφ hU ⊢
    subst hφ
    refine ⟨fun w g k ver live vs hO hown hvs hld hnl => ?_, hasBody_of Tryd.func35 (by kernel_rfl) (by kernel_rfl)⟩
    match vs, hvs with
    | [v1], ⟨hv, _⟩ =>
      obtain ⟨f, caps, rfl, hbody, hg⟩ := hv
      exact okU_int_aux hlen ho hU hO hown hbody hg hld hnl
  · simp at h
theorem ObRel.putK {g : G} {w w' : World} {k ver : Nat} {live : Bool} {τ : Ty} (h0 : 0 < sz τ) {xs ys : List (Den τ)} {b off cap : Nat} {us : List Value} (htk : g.tk k = (some ⟨b, off, none⟩, cap)) (hb : b < w.heap.size) (hown : ∀ b o x, g.ω b o = some x → b < w.heap.size)
    (hO : ObAt En g w k ⟨ver, τ, xs, some 0, live⟩ b off cap (fun i j => (w.cell? ⟨b, off + i * sz τ + j, none⟩).getD undef))
    (hst : PutR w w' b off us) (hul : us.length = xs.length * sz τ) (hyl : ys.length = xs.length) (hcap : xs.length ≤ cap) (hbig : xs.length ≤ 9223372036854775807)
    (hrel : ∀ i (hi : i < ys.length) j d, (enc τ ys[i])[j]? = some d → ∃ u, us[i * sz τ + j]? = some u ∧ VRel En g.St w u d) :
    ObRel En g w' k ⟨ver, τ, ys, some 0, live⟩ ∧ Keeps g.St w g.St w' ∧ ∀ t, t < us.length → g.ω b (off + t) = some (.obj k) := by
  have hmine : ∀ t, t < us.length → g.ω b (off + t) = some (.obj k) ∧ stuck w ⟨b, off + t, none⟩ = false := by
    intro t ht
    have hi : t / sz τ < xs.length := by rw [Nat.div_lt_iff_lt_mul h0]; omega
    have := (hO.cell (t / sz τ) (t % sz τ) hi (Nat.mod_lt _ h0)).2
    have e : off + t / sz τ * Un.sz τ + t % sz τ = off + t := by show off + t / sz τ * sz τ + t % sz τ = _; have := Nat.div_add_mod t (sz τ); rw [Nat.mul_comm] at this; omega
    rw [e] at this
    exact this.2 (Nat.zero_le _)
  have hk : Keeps g.St w g.St w' := fun b' o hs => ⟨hs, hst.other ⟨b', o, none⟩ (hown _ _ _ hs) (by
    by_cases e : b' = b
    · subst e
      by_cases h2 : o < off
      · exact .inl h2
      · by_cases h3 : off + us.length ≤ o
        · exact .inr (.inl h3)
        · have := (hmine (o - off) (by omega)).1
          rw [show off + (o - off) = o by omega] at this
          have hs' : g.ω b' o = some .st := hs
          rw [this] at hs'; simp at hs'
    · exact .inr (.inr e))⟩
  have hlt : ∀ i j, i < xs.length → j < sz τ → i * sz τ + j < us.length := fun i j hi hj => by
    have := Nat.mul_le_mul_right (sz τ) (show i + 1 ≤ xs.length from hi)
    rw [Nat.succ_mul] at this
    omega
  refine ⟨⟨⟨⟨by rw [htk]; show ys.length ≤ cap; omega, by show ys.length ≤ _; omega⟩, fun f hf => by simp at hf; subst hf; exact Nat.zero_le _⟩, fun _ => ⟨b, off, fun i j => us.getD (i * sz τ + j) undef, by rw [htk], ⟨?_, ?_, ?_⟩⟩⟩, hk, fun t ht => (hmine t ht).1⟩
  · intro i j hi hj
    have hi' : i < ys.length := hi
    have ht := hlt i j (by omega) hj
    have e0 : off + i * Un.sz τ + j = off + (i * sz τ + j) := by show off + i * sz τ + j = _; omega
    show w'.cell? ⟨b, off + i * Un.sz τ + j, none⟩ = _ ∧ Mode g w' k (some 0) i b (off + i * Un.sz τ + j)
    rw [e0]
    refine ⟨?_, fun h => absurd h (Nat.not_lt_zero _), fun _ => ⟨(hmine _ ht).1, by rw [hst.frozen _ hb]; exact (hmine _ ht).2⟩⟩
    rw [List.getD_eq_getElem?_getD, List.getElem?_eq_getElem ht]
    exact hst.cell _ _ (List.getElem?_eq_getElem ht)
  · intro i hi j d hd
    obtain ⟨u, h2, h3⟩ := hrel i hi j d hd
    show VRel En g.St w' (us.getD (i * sz τ + j) undef) d
    rw [List.getD_eq_getElem?_getD, h2]
    exact h3.mono hk
  · intro hl x hx hx'
    have hx1 : ys.length * sz τ ≤ x := hx
    rw [hyl] at hx1
    rw [htk] at hx'
    obtain ⟨m1, ⟨v, m2⟩, m3⟩ := hO.spare hl x (by show xs.length * sz τ ≤ x; exact hx1) hx'
    exact ⟨m1, ⟨v, by rw [hst.other ⟨b, off + x, none⟩ hb (.inr (.inl (by show off + us.length ≤ off + x; omega)))]; exact m2⟩, by rw [hst.frozen _ hb]; exact m3⟩
def prV (x : Int × Int) : List Value := [.int .i64 x.1, .int .i64 x.2]
theorem prV_get (x : Int × Int) (j : Nat) (d : V Un) (h : (enc .pair x)[j]? = some d) : ∃ u, (prV x)[j]? = some u ∧ d = .s u := by
  match j, h with
  | 0, h => exact ⟨_, rfl, (Option.some.inj h).symm⟩
  | 1, h => exact ⟨_, rfl, (Option.some.inj h).symm⟩
set_option maxHeartbeats 1000000 in
theorem okU_pair_aux {p : Int × Int → Int × Int → Int} {o : Int × Int → Int × Int → Prop} {xs : List (Int × Int)} (hlen : xs.length ≤ 1000000000000) (ho : ∀ x ∈ xs, ∀ y ∈ xs, o x y) (hU : uniQ p xs) {w : World} {g : G} {k ver : Nat} {live : Bool} {f : FuncId} {caps : Array Value}
    (hO : ObRel En g w k ⟨ver, .pair, xs, some 0, live⟩) (hown : ∀ b o x, g.ω b o = some x → b < w.heap.size) (hbody : HasBody Tryd.prog f) (hg : Gives Tryd.prog En f caps g.St w (fq_pair o p)) (hld : Laid w) (hnl : ∀ b o, LB b = true → ¬ g.ω b o = some (.obj k)) :
    Calls Tryd.prog 22 #[.slice (g.tk k).1 xs.length (g.tk k).2, .func (.func f) #[] caps] w fun e w' => e = .returned (.tuple #[]) ∧ (sortQ p xs).length = xs.length ∧ FExt ⟨w, fun b i => g.ω b i = some (.obj k), g.St, 0, g.β⟩ w' ∧ ObRel En g w' k ⟨ver, .pair, sortQ p xs, some 0, live⟩ := by
  have hsl := sortQ_len p xs
  by_cases hne : xs = []
  · subst hne
    refine (Tryd.slices_SortFunc_none_f22 (α := Int) (g.tk k).1 (g.tk k).2 _ w).mono ?_
    rintro e w' ⟨rfl, rfl⟩
    exact ⟨rfl, hsl, ⟨rfl, rfl, rfl, Nat.le_refl _, fun _ _ _ => rfl, fun _ _ _ _ => rfl, fun _ _ _ _ => rfl, hld, fun b hl => hld.lt b hl, hnl⟩, by simpa [sortQ] using hO⟩
  · obtain ⟨b, off, htk, hcap, hA⟩ := hO.open1 hne
    have hpos : 0 < xs.length := List.length_pos_iff.2 hne
    have hb : b < w.heap.size := lt_of_cell (hA.cell 0 0 hpos (show (0 : Nat) < 2 by omega)).1
    have h0 : (g.tk k).1 = some ⟨b, off, none⟩ := by rw [htk]
    rw [h0]
    haveI : Inhabited {x : Int × Int // x ∈ xs} := ⟨⟨xs[0], List.getElem_mem hpos⟩⟩
    let enc' : {x : Int × Int // x ∈ xs} → List Value := fun x => prV x.1
    let cf : {x : Int × Int // x ∈ xs} → {x : Int × Int // x ∈ xs} → Int := fun x y => p x.1 y.1
    let d : Array {x : Int × Int // x ∈ xs} := xs.attach.toArray
    have hds : d.size = xs.length := by simp [d]
    have hk2 : ∀ x, (enc' x).length = 2 := fun x => rfl
    have hcell : ∀ i (hi : i < xs.length) j u, (prV xs[i])[j]? = some u → w.cell? ⟨b, off + (i * 2 + j), none⟩ = some u ∧ w.frozen? ⟨b, off + (i * 2 + j), none⟩ = false ∧ oneC u = true := fun i hi j u hu => by
      have hj : j < 2 := (List.getElem?_eq_some_iff.1 hu).1
      have hc := hA.cell i j hi hj
      have e : off + i * Un.sz Ty.pair + j = off + (i * 2 + j) := by show off + i * 2 + j = _; omega
      have hr := hA.rel i hi j (.s u) (by
        match j, hj, hu with
        | 0, _, hu => rw [← Option.some.inj hu]; rfl
        | 1, _, hu => rw [← Option.some.inj hu]; rfl)
      rw [e] at hc
      have hm := hc.2.2 (Nat.zero_le _)
      obtain ⟨e3, e4⟩ := vrel_s hr
      refine ⟨?_, stuck_no hm.2, e4⟩
      have e5 : off + i * sz Ty.pair + j = off + (i * 2 + j) := by show off + i * 2 + j = _; omega
      rw [e5] at e3
      rw [hc.1]
      exact congrArg some e3
    have hone : ∀ x ∈ xs, ∀ u ∈ prV x, oneC u = true := fun x hx u hu => by
      obtain ⟨i, hi, rfl⟩ := List.getElem_of_mem hx
      obtain ⟨j, hj⟩ := List.getElem?_of_mem hu
      exact (hcell i hi j u hj).2.2
    have hdj : ∀ j (hj : j < xs.length), d[j]!.1 = xs[j] := fun j hj => by
      rw [getElem!_pos d j (by rw [hds]; exact hj)]
      simp [d]
    have hH' : HoldsK enc' 2 w b off d := fun t ht => by
      rw [size_flatK, hds] at ht
      have hi : t / 2 < xs.length := by omega
      rw [get_flatK _ _ _ _ (by rw [hds]; exact ht)]
      have hu : (prV xs[t / 2])[t % 2]? = some ((enc' d[t / 2]!)[t % 2]!) := by
        show _ = some ((prV d[t / 2]!.1)[t % 2]!)
        rw [hdj _ hi]
        have hj : t % 2 < (prV xs[t / 2]).length := by show t % 2 < 2; omega
        rw [List.getElem?_eq_getElem hj, getElem!_pos (prV xs[t / 2]) (t % 2) hj]
      have := hcell _ hi _ _ hu
      rw [show t / 2 * 2 + t % 2 = t by omega] at this
      exact ⟨this.1, this.2.1⟩
    have hmine : ∀ t, t < xs.length * 2 → g.ω b (off + t) = some (.obj k) := fun t ht => by
      have hc := (hA.cell (t / 2) (t % 2) (show t / 2 < xs.length by omega) (show t % 2 < 2 by omega)).2.2 (Nat.zero_le _)
      have e : off + t / 2 * Un.sz Ty.pair + t % 2 = off + t := by show off + t / 2 * 2 + t % 2 = off + t; omega
      rw [e] at hc
      exact hc.1
    have hcmp : CmpLays Tryd.prog f caps enc' 2 cf b off d.size w := fun m os dk hs x y => by
      have hpr : PutR w (sortWorldK enc' 2 w b off m dk os) b off ((flatK enc' 2 dk).toList.map id) := putR_of (enc := id) (n := m) (os := os) hb hH' (by rw [size_flatK, size_flatK, hs])
      have hdl : ((flatK enc' 2 dk).toList.map id).length = xs.length * 2 := by rw [List.length_map, Array.length_toList, size_flatK, hs, hds]
      have hk : Keeps g.St w g.St (sortWorldK enc' 2 w b off m dk os) := fun b' o' hs' => ⟨hs', hpr.other _ (hown b' o' _ hs') (by
        by_cases e1 : b' = b
        · subst e1
          by_cases e2 : o' < off
          · exact .inl e2
          · by_cases e3 : off + xs.length * 2 ≤ o'
            · right; left; rw [hdl]; exact e3
            · exfalso
              have hc := hmine (o' - off) (by omega)
              rw [show off + (o' - off) = o' by omega] at hc
              have h9 : g.ω b' o' = some .st := hs'
              rw [h9] at hc; simp at hc
        · exact .inr (.inr e1))⟩
      have hldW : Laid (sortWorldK enc' 2 w b off m dk os) := hld.on hpr.size fun k' hl => hpr.block k' (hld.lt k' hl) fun e => hnl k' (off + 0) hl (by rw [e]; exact hmine 0 (by omega))
      have hag : ∀ x : {x : Int × Int // x ∈ xs}, D0Rel En g.St (sortWorldK enc' 2 w b off m dk os) (.agg (enc' x).toArray) (.agg (U := Un) (enc .pair x.1)) := fun x => ⟨_, rfl, .s _ (hone _ x.2 _ (by simp [prV])), .s _ (hone _ x.2 _ (by simp [prV])), trivial⟩
      refine (hg g.St _ hk (fun b' o' hs' => Nat.lt_of_lt_of_le (hown b' o' _ hs') hpr.size) hldW [.agg (enc .pair x.1), .agg (enc .pair y.1)] [o x.1 y.1, True, True, True, True] [.v (.s (.int .i64 (p x.1 y.1)))]
        rfl (fun q hq => by
          simp only [List.mem_cons, List.not_mem_nil, or_false] at hq
          rcases hq with rfl | rfl | rfl | rfl | rfl
          · exact ho _ x.2 _ y.2
          all_goals trivial) [.agg (enc' x).toArray, .agg (enc' y).toArray] ⟨hag x, hag y, trivial⟩).mono ?_
      rintro e w' ⟨v, rfl, ⟨hx, St', -, -, hr⟩, hq⟩
      exact ⟨by rw [(vrel_s hr).1], gr_of hx (hq rfl)⟩
    have eg : ∀ args W, (callFunc f args).run Tryd.prog W = .ok (.enter f args) W := fun args W => by
      obtain ⟨fn, c, q1, q2, q3⟩ := hbody
      have hn : fn.name ≠ "runtime.NumGoroutine" := by simpa using q3
      simp [callFunc, q1, q2, hn]
    have hw := AnyQ.slices_SortFunc_total Tryd.laysSlF06_f22 2 Tryd.isAgg32 Tryd.sizeOf32 enc' hk2 (fun x v hv => by
      have hv' : v ∈ prV x.1 := hv
      simp only [prV, List.mem_cons, List.not_mem_nil, or_false] at hv'
      rcases hv' with rfl | rfl <;> rfl) cf (swoQ hU) f caps b off (g.tk k).2 d w eg hcmp hH' hb (by omega) (fun x y a1 a2 => Subtype.ext (hU.eq _ x.2 _ y.2 (of_decide_eq_false a1) (of_decide_eq_false a2)))
    rw [hds] at hw
    refine hw.mono ?_
    rintro e w' ⟨rfl, n, os, rfl⟩
    have hdl : d.toList = xs.attach := by simp [d]
    obtain ⟨D, hD⟩ : ∃ D, D = (d.toList.mergeSort fun x y => !(ltOf cf) y x).toArray := ⟨_, rfl⟩
    rw [← hD]
    have hDl : D.toList.map Subtype.val = sortQ p xs := by
      rw [hD, ← sortQ_map p xs, hdl]
    have hDs : D.size = xs.length := by rw [← Array.length_toList, ← List.length_map (f := Subtype.val), hDl, hsl]
    have hp : PutR w (sortWorldK enc' 2 w b off n D os) b off ((flatK enc' 2 D).toList.map id) := putR_of (enc := id) (n := n) (os := os) hb hH' (by rw [size_flatK, size_flatK, hDs, hds])
    have hul : ((flatK enc' 2 D).toList.map id).length = xs.length * sz .pair := by rw [List.length_map, Array.length_toList, size_flatK, hDs]; rfl
    obtain ⟨r1, _, r3⟩ := ObRel.putK (w' := _) (ys := sortQ p xs) (τ := .pair) (show (0 : Nat) < 2 by omega) htk hb hown hA hp hul hsl hcap (by omega) (fun i hi j d' hd => by
      obtain ⟨u, hu, rfl⟩ := prV_get _ j d' hd
      have hj : j < 2 := (List.getElem?_eq_some_iff.1 hu).1
      have hi2 : i < D.size := by rw [hDs, ← hsl]; exact hi
      have hDi : D[i]!.1 = (sortQ p xs)[i] := by
        have := congrArg (fun l => l[i]?) hDl
        simp only [List.getElem?_map] at this
        rw [List.getElem?_eq_getElem hi, List.getElem?_eq_getElem (by simpa using hi2)] at this
        simp only [Option.map_some, Option.some.injEq, Array.getElem_toList] at this
        rw [getElem!_pos D i hi2]
        exact this
      refine ⟨u, ?_, .s _ (hone _ ((sortQ_perm p xs).subset (List.getElem_mem hi)) _ (List.mem_of_getElem? hu))⟩
      have ht : i * 2 + j < (flatK enc' 2 D).size := by rw [size_flatK]; omega
      show ((flatK enc' 2 D).toList.map id)[i * 2 + j]? = some u
      rw [List.map_id, Array.getElem?_toList, Array.getElem?_eq_getElem ht, ← getElem!_pos (flatK enc' 2 D) _ ht, get_flatK _ _ _ _ (by rw [size_flatK] at ht; exact ht)]
      rw [show (i * 2 + j) / 2 = i by omega, show (i * 2 + j) % 2 = j by omega]
      show some ((prV D[i]!.1)[j]!) = some u
      rw [hDi]
      obtain ⟨h8, h9⟩ := List.getElem?_eq_some_iff.1 hu
      rw [getElem!_pos (prV (sortQ p xs)[i]) j h8, h9])
    refine ⟨rfl, hsl, ?_, r1⟩
    exact FExt.put (fr := ⟨w, fun b i => g.ω b i = some (.obj k), g.St, 0, g.β⟩) hp (fun i hi => r3 i hi) (by rw [hul]; show 0 < xs.length * 2; omega) hld hnl
def U_sortq_pair : FnU Un := fun τ xs args => match τ, xs, args with
  | .pair, xs, [x1] => (dF x1).bind fun φ => some ([xs.length ≤ 1000000000000, φ = fq_pair (qo_pair φ) (qf_pair φ), (∀ x ∈ xs, ∀ y ∈ xs, qo_pair φ x y), uniQ (qf_pair φ) xs], sortQ (qf_pair φ) xs)
  | _, _, _ => none
theorem okU_sortq_pair : UpOK 22 U_sortq_pair := by
  intro τ xs ds ob ys h hob
  unfold U_sortq_pair at h
  split at h
  · rename_i xs x1
    simp only [Option.bind_eq_some_iff, Option.some.injEq, Prod.mk.injEq] at h
    obtain ⟨φ, e1, rfl, rfl⟩ := h
    obtain rfl := dF_eq e1
    have hlen : xs.length ≤ 1000000000000 := hob _ (by simp)
    have hφ : φ = fq_pair (qo_pair φ) (qf_pair φ) := hob _ (by simp)
    have ho : ∀ x ∈ xs, ∀ y ∈ xs, qo_pair φ x y := hob _ (by simp)
    have hU : uniQ (qf_pair φ) xs := hob _ (by simp)
    clear hob
    generalize qo_pair φ = o at hφ ho
    generalize qf_pair φ = p at hφ hU ⊢
    subst hφ
    refine ⟨fun w g k ver live vs hO hown hvs hld hnl => ?_, hasBody_of Tryd.func22 (by kernel_rfl) (by kernel_rfl)⟩
    match vs, hvs with
    | [v1], ⟨hv, _⟩ =>
      obtain ⟨f, caps, rfl, hbody, hg⟩ := hv
      exact okU_pair_aux hlen ho hU hO hown hbody hg hld hnl
  · simp at h
end
end Go.Proofs.YtcmfdbjdbbpomaaDoor.B
namespace Go.Proofs.YtcmfdbjdbbpomaaDoor.B
open Go Go.RowKit Go.Shelf
set_option maxRecDepth 1000000
set_option linter.unusedVariables false
noncomputable section
def prC (x y : Int × Int) : Int := orI [Lib.compareInt x.1 y.1, Lib.compareInt x.2 y.2]
def rkC (l : List (List Val)) (a b : Int) : Int := orI [ordR (l.getD a.toNat []) (l.getD b.toNat []), Lib.compareInt a b]
def rkO (l : List (List Val)) (a b : Int) : Prop := (0 ≤ a ∧ a < (l.length : Int)) ∧ 0 ≤ b ∧ b < (l.length : Int)
set_option maxHeartbeats 4000000 in
theorem pr_walk (a b c d : Int) (w : World) : Calls Tryd.prog 23 #[.agg #[.int .i64 a, .int .i64 b], .agg #[.int .i64 c, .int .i64 d]] w fun e w' => e = .returned (.int .i64 (orI [Lib.compareInt a c, Lib.compareInt b d])) ∧ Gr w w' := by
  have mixed : Tryd.prog.follows .mixedOrders = true := by kernel_rfl
  go_enter Tryd.func23, Tryd.ntmps23
  go_wp2
  go_region_held3 (fun w' => w'.cell? ⟨w.heap.size, 0, none⟩ = some (.int .i64 a) ∧ w'.cell? ⟨w.heap.size, 1, none⟩ = some (.int .i64 b) ∧ w'.cell? ⟨w.heap.size + 1, 0, none⟩ = some (.int .i64 c) ∧ w'.cell? ⟨w.heap.size + 1, 1, none⟩ = some (.int .i64 d)) (go_keep)
    (first
      | (go_at_call 25; refine (Tryd.cmp_Compare_int _ _ _).mono ?_; rintro e w' ⟨rfl, rfl⟩)
      | (go_at_call 24; refine (or_walk _ 0 2 [Lib.compareInt a c, Lib.compareInt b d] _ (by simp) (by simp) (fun i hi => by match i, hi with | 0, _ => (simp; exact cell_last (by simp) _ _ _ _ rfl) | 1, _ => (simp; exact cell_last (by simp) _ _ _ _ rfl))).mono ?_; rintro e w' ⟨rfl, rfl⟩))
  go_wp2
  go_ret
  exact ⟨rfl, by first | exact ((((Gr.refl w).alloc _).alloc _).alloc _).drew | simpa using ((((Gr.refl w).alloc _).alloc _).alloc _).drew⟩
set_option maxHeartbeats 4000000 in
theorem rk_walk (n B1 b off cap i j : Nat) (kv : Nat → Value) (z : Int) (W : World) (c0 : W.cell? ⟨B1, 0, none⟩ = some (.slice (some ⟨b, off, none⟩) n cap)) (hcap : n ≤ cap) (hi : i < n) (hj : j < n)
    (d1 : W.cell? ⟨b, off + i, none⟩ = some (kv i)) (d2 : W.cell? ⟨b, off + j, none⟩ = some (kv j)) (hO : Calls Tryd.prog 14 #[kv i, kv j] W.drew fun e w' => e = .returned (.int .i64 z) ∧ Gr W.drew w') :
    Calls Tryd.prog 36 #[.int .i64 i, .int .i64 j, .pointer (some ⟨B1, 0, none⟩)] W fun e w' => e = .returned (.int .i64 (orI [z, Lib.compareInt i j])) ∧ Gr W w' := by
  have mixed : Tryd.prog.follows .mixedOrders = true := by kernel_rfl
  have x0 : (0 : Int) ≤ (i : Int) := by omega
  have x1 : (i : Int) < (n : Int) := by omega
  have x2 : (0 : Int) ≤ (j : Int) := by omega
  have x3 : (j : Int) < (n : Int) := by omega
  go_enter Tryd.func36, Tryd.ntmps36
  go_wp2
  go_region_held3 (fun w' => w'.cell? ⟨B1, 0, none⟩ = some (.slice (some ⟨b, off, none⟩) n cap) ∧ w'.cell? ⟨b, off + i, none⟩ = some (kv i) ∧ w'.cell? ⟨b, off + j, none⟩ = some (kv j)) (first | go_keep | (refine ⟨hx.ext.keeps ?_, hx.ext.keeps ?_, hx.ext.keeps ?_⟩ <;> simp [*]; done))
    (first
      | (go_at_call 14; refine hO.mono ?_; rintro e W1 ⟨rfl, hx⟩)
      | (go_at_call 25; refine (Tryd.cmp_Compare_int _ _ _).mono ?_; rintro e w' ⟨rfl, rfl⟩)
      | (go_at_call 24; refine (or_walk _ 0 2 [z, Lib.compareInt i j] _ (by simp) (by simp) (fun k hk => by match k, hk with | 0, _ => (simp; try exact cell_last (by simp) _ _ _ _ rfl) | 1, _ => (simp; try exact cell_last (by simp) _ _ _ _ rfl))).mono ?_; rintro e w' ⟨rfl, rfl⟩))
  go_wp2
  go_ret
  exact ⟨rfl, by first | exact (((Gr.refl W).drew).trans hx).alloc _ | simpa using (((Gr.refl W).drew).trans hx).alloc _⟩
theorem cmpI_bd (x y : Int) : -1 ≤ cmpI x y ∧ cmpI x y ≤ 1 := by unfold cmpI; split <;> (try split) <;> omega
theorem orI_bd : ∀ (l : List Int), (∀ x ∈ l, -1 ≤ x ∧ x ≤ 1) → -1 ≤ orI l ∧ orI l ≤ 1
  | [], _ => by simp [orI]
  | x :: l, h => by
    rw [orI]
    split
    · exact orI_bd l fun y hy => h y (List.mem_cons_of_mem _ hy)
    · exact h x List.mem_cons_self
theorem cmpInt_bd (x y : Int) : -1 ≤ Lib.compareInt x y ∧ Lib.compareInt x y ≤ 1 := by
  have : Lib.compareInt x y = cmpI x y := by unfold Lib.compareInt cmpI; rfl
  rw [this]; exact cmpI_bd x y
theorem cmpL_bd : ∀ (a b : List UInt8), -1 ≤ cmpL a b ∧ cmpL a b ≤ 1
  | [], [] => by simp [cmpL]
  | [], _ :: _ => by simp [cmpL]
  | _ :: _, [] => by simp [cmpL]
  | a :: l, b :: r => by
    rw [cmpL]
    split
    · exact cmpL_bd l r
    · exact cmpI_bd _ _
theorem ordV_bd (a b : Val) : -1 ≤ ordV a b ∧ ordV a b ≤ 1 := by
  unfold ordV
  split
  · split
    · exact cmpL_bd _ _
    · exact cmpI_bd _ _
  · exact cmpI_bd _ _
theorem ordR_bd : ∀ (r s : List Val), -1 ≤ ordR r s ∧ ordR r s ≤ 1
  | [], [] => by simp [ordR]
  | [], _ :: _ => by simp [ordR]
  | _ :: _, [] => by simp [ordR]
  | a :: r, b :: s => by
    rw [ordR]
    split
    · exact ordR_bd r s
    · exact ordV_bd a b
theorem one_small {x : Int} (h : -1 ≤ x ∧ x ≤ 1) : oneC (.int .i64 x) = true := decide_eq_true (show IntKind.i64.min ≤ x ∧ x ≤ IntKind.i64.max by
  have h1 : IntKind.i64.min = -9223372036854775808 := rfl
  have h2 : IntKind.i64.max = 9223372036854775807 := rfl
  omega)
theorem gr_ret {St : Nat → Nat → Prop} {w w' : World} {z : Int} {ob : List Prop} (h : Gr w w') (hz : -1 ≤ z ∧ z ≤ 1) : Ret0 En St w w' (.int .i64 z) [.v (.s (.int .i64 z))] ∧ Quiet ob w w' := by
  refine ⟨⟨h.ext, fun _ _ => False, fun _ _ _ h => h.elim, fun _ _ h => h.elim, .s _ (one_small hz)⟩, fun _ => ?_⟩
  obtain ⟨q, os, rfl⟩ := h
  show w.drawn ≤ w.drawn + q
  omega
theorem pair_val {St : Nat → Nat → Prop} {w : World} {v : Value} {x : Int × Int} (h : D0Rel En St w v (.agg (U := Un) (enc .pair x))) : v = .agg #[.int .i64 x.1, .int .i64 x.2] := by
  obtain ⟨arr, rfl, h2⟩ := h
  obtain ⟨l⟩ := arr
  have h2 : All2 (VRel En St w) l [ci x.1, ci x.2] := h2
  match l, h2 with
  | [a, b], ⟨h3, h4, _⟩ => rw [(vrel_s h3).1, (vrel_s h4).1]
def V_merge1 : FV Un := fq_pair (fun _ _ => True) prC
theorem okV_merge1 : FvOK 23 V_merge1 := by
  refine ⟨hasBody_of Tryd.func23 (by kernel_rfl) (by kernel_rfl), fun args ob rs h hob => ?_⟩
  unfold V_merge1 fq_pair at h
  split at h
  · simp only [Option.bind_eq_some_iff, Option.some.injEq, Prod.mk.injEq] at h
    obtain ⟨a, e0, b, e1, rfl, rfl⟩ := h
    simp only [List.map_cons, List.map_nil]
    rw [dS_eq e0, dS_eq e1]
    intro w St vs hbd hvs hld
    match vs, hvs with
    | [v0, v1], ⟨h0, h1, _⟩ =>
      rw [pair_val h0, pair_val h1]
      refine (pr_walk a.1 a.2 b.1 b.2 w).mono ?_
      rintro e w' ⟨rfl, hg⟩
      exact ⟨_, rfl, gr_ret hg (orI_bd _ fun x hx => by
        simp only [List.mem_cons, List.not_mem_nil, or_false] at hx
        rcases hx with rfl | rfl <;> exact cmpInt_bd _ _)⟩
  · simp at h
def L_ranked1 : List (List (DC Un)) → Option (FV Un) := fun dl => match dl with
  | [b0] => (bL .row b0).bind fun l => some (fq_int (rkO l) (rkC l))
  | _ => none
theorem okL_ranked1 : ClOK 36 L_ranked1 := by
  refine ⟨hasBody_of Tryd.func36 (by kernel_rfl) (by kernel_rfl), fun dl φ args ob rs hF hφ hob => ?_⟩
  unfold L_ranked1 at hF
  split at hF
  · simp only [Option.bind_eq_some_iff, Option.some.injEq] at hF
    obtain ⟨l, g0, rfl⟩ := hF
    obtain rfl := bL_eq g0
    unfold fq_int at hφ
    split at hφ
    · simp only [Option.bind_eq_some_iff, Option.some.injEq, Prod.mk.injEq] at hφ
      obtain ⟨a, e0, c, e1, rfl, rfl⟩ := hφ
      obtain ⟨⟨a0, a1⟩, c0, c1⟩ := hob (rkO l a c) (by simp)
      simp only [List.map_cons, List.map_nil, List.cons_append, List.nil_append]
      rw [dI_eq e0, dI_eq e1]
      intro w St vs hbd hvs hld
      match vs, hvs with
      | [v0, v1, v2], ⟨h0, h1, h2, _⟩ =>
        obtain rfl := (vrel_s h0).1
        obtain rfl := (vrel_s h1).1
        obtain ⟨B, rfl, hc⟩ := h2
        obtain ⟨hs, u, hcell, hu⟩ := hc 0 _ rfl
        obtain ⟨a', b, off, cap, kv, rfl, ha, hcl⟩ := rows_cells hu
        obtain ⟨i, rfl⟩ : ∃ i : Nat, a = (i : Int) := ⟨a.toNat, by omega⟩
        obtain ⟨j, rfl⟩ : ∃ j : Nat, c = (j : Int) := ⟨c.toNat, by omega⟩
        obtain ⟨rfl, hcap⟩ := ha (by rintro rfl; simp at a1; omega)
        have hi : i < l.length := by omega
        have hj : j < l.length := by omega
        have kp : Keeps St w St w.drew := fun b' o' hs' => ⟨hs', rfl⟩
        refine (rk_walk l.length B b off cap i j kv (ordR (l.getD i []) (l.getD j [])) w hcell hcap hi hj (hcl i hi).2.1 (hcl j hj).2.1 (orders_calls ((hcl i hi).2.2.mono kp) ((hcl j hj).2.2.mono kp))).mono ?_
        rintro e w' ⟨rfl, hg⟩
        refine ⟨_, rfl, ?_⟩
        have := gr_ret (St := St) (ob := [rkO l (i : Int) (j : Int), True, True, True, True]) hg (z := orI [ordR (l.getD i []) (l.getD j []), Lib.compareInt i j]) (orI_bd _ fun x hx => by
          simp only [List.mem_cons, List.not_mem_nil, or_false] at hx
          rcases hx with rfl | rfl
          · exact ordR_bd _ _
          · exact cmpInt_bd _ _)
        exact this
    · simp at hφ
  · simp at hF
end
end Go.Proofs.YtcmfdbjdbbpomaaDoor.B
