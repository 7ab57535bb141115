/- The library's strings.indexFunc: where the first rune begins at which a function says 'truth'. -/
import Derived.Test.YtpaelnkffpmfaaaBLib
import Derived.Lib.OthersKept
import Derived.Lib.TrimU
import Derived.Deep.LoopGhost
import Derived.Shelf.Abstract
namespace Go.Proofs.Ytpaelnkffpmfaaa.B
open Go Go.RowKit
set_option maxRecDepth 1000000

def isB1 : Option (List Prop × List (D0 Un)) → Bool
  | some ([], [.v (.s (.bool _))]) => true
  | _ => false
/-- A function of runes that asks nothing and says yes or no. -/
noncomputable def boolOf (p : Prop) : Bool := @decide p (Classical.propDecidable p)
theorem boolOf_iff {p : Prop} : boolOf p = true ↔ p := @decide_eq_true_iff p (Classical.propDecidable p)
noncomputable def runesOK (φ : FV Un) : Bool := boolOf (∀ c : Nat, c ≤ 1114111 → isB1 (φ [.v (.s (.int .i32 c))]) = true)
def runeP (φ : FV Un) (c : Nat) : Bool :=
  match φ [.v (.s (.int .i32 c))] with
  | some (_, [.v (.s (.bool b))]) => b
  | _ => false
theorem runesOK_iff (φ : FV Un) : runesOK φ = true ↔ ∀ c, c ≤ 1114111 → φ [.v (.s (.int .i32 (c : Nat)))] = some ([], [.v (.s (.bool (runeP φ c)))]) := by
  unfold runesOK
  refine boolOf_iff.trans ?_
  refine forall_congr' fun c => forall_congr' fun _ => ?_
  unfold isB1 runeP
  split
  · rename_i b e
    rw [e]; simp
  · rename_i hn
    refine ⟨fun h => by simp at h, fun h => absurd h ?_⟩
    intro h
    exact hn _ h

def idxFrom (p : Nat → Bool) (t : Bool) (s : ByteArray) : Nat → Nat → Int
  | 0, _ => -1
  | f + 1, pos => if pos < s.size then (if p (Utf8.decode s pos).1 = t then (pos : Int) else idxFrom p t s f (pos + (Utf8.decode s pos).2)) else -1
@[irreducible] def idxF (p : Nat → Bool) (t : Bool) (s : ByteArray) : Int := idxFrom p t s s.size 0
theorem idxFrom_end (p : Nat → Bool) (t : Bool) (s : ByteArray) (f pos : Nat) (h : ¬ pos < s.size) : idxFrom p t s f pos = -1 := by cases f <;> simp [idxFrom, h]

set_option maxHeartbeats 2000000 in
set_option maxRecDepth 1000000 in
theorem indexFunc_walk (g : Nat) (lb : Array Value) (hg : HasBody Try.prog g) (p : Nat → Bool) (truth : Bool) (s : ByteArray) (w : World)
    (hp : ∀ (W : World) (x : Nat), x ≤ 1114111 → Below w.heap.size w W → Calls Try.prog g (#[.int .i32 (x : Int)] ++ lb) W fun e W' => e = .returned (.bool (p x)) ∧ Below W.heap.size W W') :
    Calls Try.prog 49 #[.string s, .func (.func g) #[] lb, .bool truth] w fun e w' => e = .returned (.int .i64 (idxF p truth s)) ∧ Below w.heap.size w w' := by
  have eg : ∀ args w, (callFunc g args).run Try.prog w = .ok (.enter g args) w := by
    obtain ⟨fn, c, h1, h2, h3⟩ := hg
    exact enters_of h1 h3 h2
  unfold idxF
  go_enter Try.func49, Try.ntmps49
  go_wp2
  go_loopg [] s.size (fun gf wx => ∃ pos : Nat, wx.heap[w.heap.size]? = some (.stringIter s pos) ∧ Below w.heap.size w wx ∧ idxFrom p truth s gf pos = idxFrom p truth s s.size 0 ∧ s.size ≤ pos + gf)
  case atStart => exact ⟨0, World.iter_heap w s 0, (Below.refl _ w).alloc (Nat.le_refl _) _, rfl, by omega⟩
  case round =>
    obtain ⟨pos, hit, hbw, hleft, hfu⟩ := hrel
    by_cases hps : pos < s.size
    · obtain ⟨g', rfl⟩ : ∃ g', gk = g' + 1 := ⟨gk - 1, by omega⟩
      have hnx : ∀ ty, (Instr.next (.pointer (some ⟨w.heap.size, 0, none⟩)) true ty).run Try.prog wr = _ := fun ty => Lib.run_next_any_at wr w.heap.size s pos ty hit hps
      have hwd := Lib.width_pos s pos
      obtain ⟨R, hR⟩ : ∃ R, (Utf8.decode s pos).1 = R := ⟨_, rfl⟩
      obtain ⟨K, hK⟩ : ∃ K, (Utf8.decode s pos).2 = K := ⟨_, rfl⟩
      simp only [idxFrom, hps, if_true, hR, hK] at hleft
      rw [hR, hK] at hnx
      rw [hK] at hwd
      have hit2 := Lib.iterAt_heap wr w.heap.size s pos (pos + K) hit
      have hbw2 := Lib.below_iterAt hbw (k := w.heap.size) (Nat.le_refl _) s (pos + K)
      obtain ⟨W, hWd⟩ : ∃ W, wr.iterAt w.heap.size s (pos + K) = W := ⟨_, rfl⟩
      rw [hWd] at hnx hit2 hbw2
      have hlt : w.heap.size < W.heap.size := (Array.getElem?_eq_some_iff.1 hit2).1
      have cS : Calls Try.prog g (#[.int .i32 (R : Int)] ++ lb) W _ := hp W R (by rw [← hR]; exact Lib.rune_le s pos) hbw2
      clear hp
      cases hsp : p R <;> cases truth <;> rw [hsp] at cS <;> simp only [hsp, if_true, Bool.false_eq_true, Bool.true_eq_false, if_false] at hleft
      · go_wp2_with (go_at_fn g; refine cS.mono ?_; rintro e W' ⟨rfl, hb⟩)
        go_ret
        exact ⟨by rw [← hleft] <;> rfl, hbw2.trans (hb.mono hbw2.size)⟩
      · go_wp2_with (go_at_fn g; refine cS.mono ?_; rintro e W' ⟨rfl, hb⟩)
        go_roundg g'
        case measure => omega
        case rel => exact ⟨pos + K, (hb.block _ hlt).trans hit2, hbw2.trans (hb.mono hbw2.size), hleft, by omega⟩
      · go_wp2_with (go_at_fn g; refine cS.mono ?_; rintro e W' ⟨rfl, hb⟩)
        go_roundg g'
        case measure => omega
        case rel => exact ⟨pos + K, (hb.block _ hlt).trans hit2, hbw2.trans (hb.mono hbw2.size), hleft, by omega⟩
      · go_wp2_with (go_at_fn g; refine cS.mono ?_; rintro e W' ⟨rfl, hb⟩)
        go_ret
        exact ⟨by rw [← hleft] <;> rfl, hbw2.trans (hb.mono hbw2.size)⟩
    · have hnx : ∀ ty, (Instr.next (.pointer (some ⟨w.heap.size, 0, none⟩)) true ty).run Try.prog wr = _ := fun ty => Lib.run_next_end_at wr w.heap.size s pos ty hit hps
      rw [idxFrom_end p truth s gk pos hps] at hleft
      go_wp2
      go_ret
      exact ⟨by rw [← hleft] <;> rfl, hbw⟩

noncomputable def F_strings_indexFunc : FnC Un := fun args => match args with
  | [x0, x1, x2] => (dStr x0).bind fun s => (dF x1).bind fun φ => (dB x2).bind fun t => some ([runesOK φ = true], [.c (.s (.int .i64 (idxF (runeP φ) t s)))], [])
  | _ => none

theorem idxFrom_range (p : Nat → Bool) (t : Bool) (s : ByteArray) : ∀ (f pos : Nat), idxFrom p t s f pos = -1 ∨ ((pos : Int) ≤ idxFrom p t s f pos ∧ idxFrom p t s f pos < s.size)
  | 0, _ => .inl rfl
  | f + 1, pos => by
    simp only [idxFrom]
    split
    · split
      · right; omega
      · rcases idxFrom_range p t s f (pos + (Utf8.decode s pos).2) with h | h
        · exact .inl h
        · right; omega
    · exact .inl rfl
theorem idxF_range (p : Nat → Bool) (t : Bool) (s : ByteArray) : -1 ≤ idxF p t s ∧ idxF p t s ≤ s.size := by
  unfold idxF
  rcases idxFrom_range p t s s.size 0 with h | h <;> omega

theorem ok_strings_indexFunc : FnOK 49 F_strings_indexFunc := by
  intro args ob rs os h hob
  unfold F_strings_indexFunc at h
  split at h
  · rename_i x0 x1 x2
    simp only [Option.bind_eq_some_iff, Option.some.injEq, Prod.mk.injEq] at h
    obtain ⟨s, e0, φ, e1, t, e2, rfl, rfl, rfl⟩ := h
    obtain rfl := dStr_eq e0
    obtain rfl := dF_eq e1
    obtain rfl := dB_eq e2
    have hr := (runesOK_iff φ).1 (hob _ (by simp))
    refine ⟨?_, hasBody_of Try.func49 (by kernel_rfl) (by kernel_rfl)⟩
    intro w St vs hbd hvs
    match vs, hvs with
    | [v0, v1, v2], ⟨h0, ⟨g, caps, e1, hg, hgv⟩, h2, _⟩ =>
      have e0 : v0 = .string s ∧ oneC (.string s) = true := by
        have h0' : VRel En St w v0 (.s (.string s)) := h0
        cases h0' with | s _ h => exact ⟨rfl, h⟩
      have e2 : v2 = .bool t := by
        have h2' : VRel En St w v2 (.s (.bool t)) := h2
        cases h2' with | s _ _ => rfl
      obtain ⟨e0, hsz⟩ := e0
      subst e0; subst e1; subst e2
      have hsz' := oneC_str.1 hsz
      have := indexFunc_walk g caps hg (runeP φ) t s w (fun W x hx hb => by
        have hk : Keeps St w St W := fun b o hs => ⟨hs, Below.cell hb (hbd b o hs)⟩
        have := hgv St W hk (fun b o hs => Nat.lt_of_lt_of_le (hbd b o hs) hb.size) [.v (.s (.int .i32 (x : Nat)))] [] _ (hr x hx) (by simp) [.int .i32 (x : Int)] ⟨.s _ (by
          refine oneC_int.2 ⟨?_, ?_⟩
          · have : IntKind.i32.min = -2147483648 := rfl
            omega
          · have : IntKind.i32.max = 2147483647 := rfl
            omega), trivial⟩
        refine Calls.mono this ?_
        rintro e W' ⟨v, rfl, hext, St', _, _, hrr⟩
        have hv : VRel En St' W' v (.s (.bool (runeP φ x))) := hrr
        cases hv with | s _ _ => exact ⟨rfl, hext⟩)
      refine Calls.mono this ?_
      rintro e w' ⟨rfl, hb⟩
      let gg : G := { β := fun _ => 0, lb := fun _ => False, ω := fun _ _ => none, tk := fun _ => (none, 0) }
      have hin := idxF_range (runeP φ) t s
      refine ⟨_, rfl, hb, gg, fun _ h => h, fun b o x _ h => by simp [gg] at h, fun b o x h => by simp [gg] at h, ⟨rfl, oneC_i64.2 (by omega)⟩, fun k o h => by simp at h⟩
  · simp at h
end Go.Proofs.Ytpaelnkffpmfaaa.B
