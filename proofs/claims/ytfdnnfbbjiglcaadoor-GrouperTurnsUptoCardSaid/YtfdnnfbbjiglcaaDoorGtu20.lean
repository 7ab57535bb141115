/- Part 20 of the proof: Ldist Slaw33a Lturnp Slaw33b. -/
import Derived.Test.YtfdnnfbbjiglcaaDoorGtu19
namespace Go.Proofs.YtfdnnfbbjiglcaaDoor.B
open Go Go.RowKit Go.Shelf Go.Maps
set_option maxRecDepth 1000000
set_option linter.unusedVariables false
noncomputable section
def heads (key : Int → List Val) (out : List (List Int)) : List (List Val) := out.map fun g => key (g.headD 0)
theorem clone_calls {St : Nat → Nat → Prop} {w : World} {v : Value} {r : List Val} (hbd : ∀ b o, St b o → b < w.heap.size) (h : VRel En St w v (.dat (U := Un) Ty.val r)) (hl : r.length ≤ 1000000000) (hld : Laid w) :
    Calls Tryd.prog 22 #[v] w fun e w' => ∃ v', e = .returned v' ∧ Ext w w' ∧ VRel En (fun b _ => w.heap.size ≤ b ∧ b < w'.heap.size) w' v' (.dat (U := Un) Ty.val r) := by
  have hc := (ok_clone_row [.d (.v (.dat (U := Un) Ty.val r))] [r.length ≤ 1000000000] [.c (.ob 0 0)] [⟨0, .val, r, some 0, true⟩] (by unfold F_clone_row F_clone; simp only [dL_mk]; rfl) (fun p hp => by rw [List.mem_singleton.1 hp]; exact hl)).1 w St [v] hbd ⟨h, trivial⟩ hld
  refine hc.mono ?_
  rintro e w' ⟨v', rfl, hR⟩
  exact ⟨v', rfl, ret_fresh hR⟩
def StR (St : Nat → Nat → Prop) (w wr : World) (base : Nat) (v : Value) (b o : Nat) : Prop := (b < w.heap.size ∧ St b o) ∨ (base ≤ b ∧ b < wr.heap.size ∧ v.ownBlock ≠ some b)
structure TieH (key : Int → List Val) (out : List (List Int)) (D : DataW Unit) : Prop where
  is : IsMap D
  has : ∀ x : List Val, x.length ≤ 1000000000 → (keyT x).length ≤ 1000000000000 → Maps.has D (klOf x) = decide (gAt key x out < out.length)
structure RD (St : Nat → Nat → Prop) (w : World) (keys : List (List Val)) (i : Nat) (v : Value) (cs : List Value) (D : DataW Unit) (wr : World) : Prop where
  ext : Ext w wr
  own : wr.ownsMap Tryd.prog 39 (plainElem Tryd.prog 3) (w.heap.size + 1) i D
  tie : TieH (keyAt keys) (gRun (keyAt keys) i) D
  last : ∃ lz lt, wr.heap[w.heap.size]? = some (.cells #[.int .i64 lz, .string lt] 39 (0, 0)) ∧ (lz = -1 ∨ ∃ y : List Val, y.length ≤ 1000000000 ∧ (keyT y).length ≤ 1000000000000 ∧ lz = y.length ∧ lt = ⟨(keyT y).toArray⟩ ∧ gAt (keyAt keys) y (gRun (keyAt keys) i) < (gRun (keyAt keys) i).length)
  row : wr.ownsRow (w.heap.size + 2) 33 1 v (gRun (keyAt keys) i).length cs
  rel : ∀ (j : Nat) r, (heads (keyAt keys) (gRun (keyAt keys) i))[j]? = some r → ∃ u, cs[j]? = some u ∧ VRel En (StR St w wr (w.heap.size + 2) v) wr u (.dat (U := Un) Ty.val r)
  hs : w.heap.size + 2 ≤ wr.heap.size
theorem heads_app {key : Int → List Val} {out : List (List Int)} {k : Nat} {i : Int} (hk : k < out.length) (hne : out.getD k [] ≠ []) : heads key (out.set k (out.getD k [] ++ [i])) = heads key out := by
  unfold heads
  apply List.ext_getElem?
  intro j
  rw [List.getElem?_map, List.getElem?_map, List.getElem?_set]
  by_cases e : k = j
  · subst e
    rw [if_pos rfl, if_pos hk, List.getElem?_eq_getElem hk]
    have : out.getD k [] = out[k] := by rw [List.getD_eq_getElem?_getD, List.getElem?_eq_getElem hk]; rfl
    rw [this] at hne ⊢
    cases hc : out[k] with
    | nil => exact (hne hc).elim
    | cons a r => rfl
  · rw [if_neg e]
theorem str_keeps {St : Nat → Nat → Prop} {w wr W : World} {base : Nat} {v : Value} (hw : Ext w wr) (hx : Ext wr W) : Keeps (StR St w wr base v) wr (StR St w W base v) W := fun b o hs => by
  rcases hs with ⟨h1, h2⟩ | ⟨h1, h2, h3⟩
  · exact ⟨.inl ⟨h1, h2⟩, hx.cell (p := ⟨b, o, none⟩) (Nat.lt_of_lt_of_le h1 hw.size)⟩
  · exact ⟨.inr ⟨h1, Nat.lt_of_lt_of_le h2 hx.size, h3⟩, hx.cell (p := ⟨b, o, none⟩) h2⟩
theorem RD.found {St : Nat → Nat → Prop} {w wr W : World} {keys : List (List Val)} {i : Nat} {v : Value} {cs : List Value} {D : DataW Unit} (h : RD St w keys i v cs D wr) (hx : Ext wr W) {x : List Val} (hka : keyAt keys (i : Int) = x) (hg : gAt (keyAt keys) x (gRun (keyAt keys) i) < (gRun (keyAt keys) i).length) : (gRun (keyAt keys) (i + 1)).length = (gRun (keyAt keys) i).length ∧ RD St w keys (i + 1) v cs D W := by
  have hGI := gRun_ok (keyAt keys) i
  generalize hout : gRun (keyAt keys) i = out at hg hGI
  have hs : gRun (keyAt keys) (i + 1) = out.set (gAt (keyAt keys) x out) (out.getD (gAt (keyAt keys) x out) [] ++ [(i : Int)]) := by
    rw [gRun_succ, hout]; unfold gStep gAdd; rw [hka, if_pos hg]
  have hne := hGI.ne _ hg
  have hl : (gRun (keyAt keys) (i + 1)).length = out.length := by rw [hs, List.length_set]
  have hgt : ∀ y, gAt (keyAt keys) y (gRun (keyAt keys) (i + 1)) = gAt (keyAt keys) y out := fun y => by rw [hs]; exact gAt_app hg hne
  have hh : heads (keyAt keys) (gRun (keyAt keys) (i + 1)) = heads (keyAt keys) out := by rw [hs]; exact heads_app hg hne
  refine ⟨hl, h.ext.trans hx, (h.own.kept (grown_of_ext hx) (by simp)).mono (Nat.le_succ _), ⟨h.tie.is, fun y y1 y2 => ?_⟩, ?_, ?_, fun j r hr => ?_, Nat.le_trans h.hs hx.size⟩
  · rw [hgt, hl, ← hout]; exact h.tie.has y y1 y2
  · obtain ⟨lz, lt, l1, l2⟩ := h.last
    refine ⟨lz, lt, by rw [hx.block (by have := h.hs; omega)]; exact l1, l2.imp id ?_⟩
    rintro ⟨y, y1, y2, y3, y4, y5⟩
    exact ⟨y, y1, y2, y3, y4, by rw [hgt, hl, ← hout]; exact y5⟩
  · rw [hl, ← hout]; exact h.row.kept (grown_of_ext hx) (by cases v.ownBlock <;> simp)
  · rw [hh, ← hout] at hr
    obtain ⟨u, u1, u2⟩ := h.rel j r hr
    exact ⟨u, u1, u2.mono (str_keeps h.ext hx)⟩
theorem key_set {W : World} {B : Nat} {u v u' v' : Value} {t : TypeId} (h : W.heap[B]? = some (.cells #[u, v] t (0, 0))) : ((W.setCell ⟨B, 0, none⟩ u').setCell ⟨B, 1, none⟩ v').heap[B]? = some (.cells #[u', v'] t (0, 0)) := by
  simp [World.setCell, Array.getElem?_modify, h]
theorem set_other {W : World} {B b : Nat} (o : Nat) (u : Value) (h : b ≠ B) : (W.setCell ⟨B, o, none⟩ u).heap[b]? = W.heap[b]? := by
  simp [World.setCell, Array.getElem?_modify, Ne.symm h]
theorem vrel_slice {St : Nat → Nat → Prop} {w : World} {v : Value} {τ : Ty} {xs : List (Den τ)} (h : VRel En St w v (.dat (U := Un) τ xs)) : ∃ a n c, v = .slice a n c := by
  rcases h.inv with ⟨_, a, c, rfl⟩ | ⟨b, o, c, cv, rfl, _⟩
  · exact ⟨_, _, _, rfl⟩
  · exact ⟨_, _, _, rfl⟩
theorem dist_w3 {St : Nat → Nat → Prop} {w wr W1 w3 : World} {keys : List (List Val)} {i : Nat} {v : Value} {cs : List Value} {D : DataW Unit} (h : RD St w keys i v cs D wr) (hx : Ext wr W1) {a b u1 u2 : Value} {o : Obj}
    (hg : (((W1.setCell ⟨w.heap.size, 0, none⟩ u1).setCell ⟨w.heap.size, 1, none⟩ u2).alloc o).grownBy w3 (some (w.heap.size + 1))) (hl : W1.heap[w.heap.size]? = some (.cells #[a, b] 39 (0, 0))) :
    Ext w w3 ∧ w3.ownsRow (w.heap.size + 2) 33 1 v (gRun (keyAt keys) i).length cs ∧ (∀ b, b < wr.heap.size → b ≠ w.heap.size → b ≠ w.heap.size + 1 → w3.heap[b]? = wr.heap[b]?) ∧ w3.heap[w.heap.size]? = some (.cells #[u1, u2] 39 (0, 0)) ∧ wr.heap.size ≤ w3.heap.size := by
  have hs := h.hs
  have hsz := hx.size
  have hrl := h.row.lt
  have hne : ∀ k, k < w.heap.size + 2 → v.ownBlock ≠ some k := fun k hk e => by have := (hrl k e).1; omega
  have hne' : ∀ k, k < w.heap.size + 2 → v.ownBlock = none ∨ v.ownBlock ≠ some k := fun k hk => .inr (hne k hk)
  have hgs : W1.heap.size ≤ w3.heap.size := by have := hg.size; simp at this; omega
  refine ⟨ext_grown ((((h.ext.trans hx).setCell (Nat.le_refl _) _).setCell (Nat.le_refl _) _).alloc _) hg (fun b hb => by cases hb; omega), ?_, fun b hb h1 h2 => ?_, ?_, by omega⟩
  · have r1 : W1.ownsRow (w.heap.size + 2) 33 1 v (gRun (keyAt keys) i).length cs := h.row.kept (grown_of_ext hx) (by cases v.ownBlock <;> simp)
    exact ((ownsRow_setCell_other (ownsRow_setCell_other r1 (hne w.heap.size (by omega)) _) (hne w.heap.size (by omega)) _).alloc o).kept hg (hne' (w.heap.size + 1) (by omega))
  · rw [hg.block b (by simp; omega) (fun e => h2 (Option.some.inj e)), heap_alloc_old _ _ (by simp; omega), set_other _ _ h1, set_other _ _ h1]
    exact hx.block hb
  · rw [hg.block _ (by simp; omega) (by simp), heap_alloc_old _ _ (by simp; omega)]
    exact key_set hl
theorem RD.fresh {St : Nat → Nat → Prop} {w wr w4 w5 : World} {keys : List (List Val)} {i g5 cap5 : Nat} {v u : Value} {cs : List Value} {D D' : DataW Unit} (h : RD St w keys i v cs D wr) {x : List Val} (hka : keyAt keys (i : Int) = x) (hx1 : x.length ≤ 1000000000) (hx2 : (keyT x).length ≤ 1000000000000) (hg : ¬ gAt (keyAt keys) x (gRun (keyAt keys) i) < (gRun (keyAt keys) i).length)
    (hx5 : Ext w w5) (hle : wr.heap.size ≤ w4.heap.size) (hle2 : w4.heap.size < w5.heap.size) (hkeep : ∀ b, b < wr.heap.size → b ≠ w.heap.size → b ≠ w.heap.size + 1 → v.ownBlock ≠ some b → w5.heap[b]? = wr.heap[b]?) (hown : w5.ownsMap Tryd.prog 39 (plainElem Tryd.prog 3) (w.heap.size + 1) (i + 1) (D.put (klOf x) D'))
    (hlast : w5.heap[w.heap.size]? = some (.cells #[.int .i64 x.length, .string ⟨(keyT x).toArray⟩] 39 (0, 0))) (hrow : w5.ownsRow (w.heap.size + 2) 33 1 (.slice (some ⟨g5, 0, none⟩) ((gRun (keyAt keys) i).length + 1) cap5) ((gRun (keyAt keys) i).length + 1) (cs ++ [u]))
    (hat : v.ownBlock = some g5 ∨ w4.heap.size ≤ g5) (hu : VRel En (fun b _ => wr.heap.size ≤ b ∧ b < w4.heap.size) w5 u (.dat (U := Un) Ty.val x)) :
    (gRun (keyAt keys) (i + 1)).length = (gRun (keyAt keys) i).length + 1 ∧ RD St w keys (i + 1) (.slice (some ⟨g5, 0, none⟩) ((gRun (keyAt keys) i).length + 1) cap5) (cs ++ [u]) (D.put (klOf x) D') w5 := by
  have hrl := h.row.lt
  have hcl : cs.length = (gRun (keyAt keys) i).length := by have := h.row.1; rw [Nat.mul_one] at this; exact this
  have hs : gRun (keyAt keys) (i + 1) = gRun (keyAt keys) i ++ [[(i : Int)]] := by
    rw [gRun_succ]; unfold gStep gAdd; rw [hka, if_neg hg]
  have hl : (gRun (keyAt keys) (i + 1)).length = (gRun (keyAt keys) i).length + 1 := by rw [hs]; simp
  have hle0 : ∀ y, gAt (keyAt keys) y (gRun (keyAt keys) i) ≤ (gRun (keyAt keys) i).length := fun y => List.findIdx_le_length
  have hh : heads (keyAt keys) (gRun (keyAt keys) (i + 1)) = heads (keyAt keys) (gRun (keyAt keys) i) ++ [x] := by
    rw [hs]; unfold heads; rw [List.map_append]; simp [hka]
  have hgx : gAt (keyAt keys) x (gRun (keyAt keys) (i + 1)) = (gRun (keyAt keys) i).length := by
    rw [hs, gAt_snoc, if_neg hg, if_pos hka]
  refine ⟨hl, hx5, hown, ⟨hown.isMap, fun y y1 y2 => ?_⟩, ⟨_, _, hlast, .inr ⟨x, hx1, hx2, rfl, rfl, by rw [hgx, hl]; omega⟩⟩, by rw [hl]; exact hrow, fun j r hr => ?_, by have := h.hs; omega⟩
  · rw [hs, gAt_snoc, List.length_append, List.length_singleton]
    by_cases e : y = x
    · subst e
      rw [has_put_same h.tie.is (klOf_is hx1 hx2), if_neg hg, if_pos hka, decide_eq_true (by omega)]
    · rw [has_put_other (fun e2 => e (klOf_inj y1 y2 hx1 hx2 e2)), h.tie.has y y1 y2]
      have hl := hle0 y
      by_cases h3 : gAt (keyAt keys) y (gRun (keyAt keys) i) < (gRun (keyAt keys) i).length
      · rw [if_pos h3, decide_eq_true h3, decide_eq_true (by omega)]
      · rw [if_neg h3, if_neg (fun e2 => e (e2.symm.trans hka)), decide_eq_false h3, decide_eq_false (by omega)]
  · rw [hh] at hr
    have hlen : (heads (keyAt keys) (gRun (keyAt keys) i)).length = cs.length := by unfold heads; rw [List.length_map, hcl]
    rcases Nat.lt_or_ge j cs.length with hj | hj
    · rw [List.getElem?_append_left (by omega)] at hr
      obtain ⟨z, z1, z2⟩ := h.rel j r hr
      refine ⟨z, by rw [List.getElem?_append_left hj]; exact z1, z2.mono fun b o hb => ?_⟩
      have hblt : b < wr.heap.size := by rcases hb with ⟨h1, _⟩ | ⟨_, h2, _⟩; exact Nat.lt_of_lt_of_le h1 h.ext.size; exact h2
      have hcell : w5.heap[b]? = wr.heap[b]? := by
        rcases hb with ⟨h1, _⟩ | ⟨h1, _, h3⟩
        · exact hkeep b hblt (by omega) (by omega) (fun e => by have := (hrl b e).1; omega)
        · exact hkeep b hblt (by omega) (by omega) h3
      refine ⟨?_, by simp [World.cell?, hcell]⟩
      rcases hb with ⟨h1, h2⟩ | ⟨h1, h2, h3⟩
      · exact .inl ⟨h1, h2⟩
      · refine .inr ⟨h1, by omega, fun e => ?_⟩
        have e2 : g5 = b := Option.some.inj e
        rcases hat with ha | ha
        · exact h3 (by rw [ha, e2])
        · omega
    · have hj2 : j = cs.length := by
        have := (List.getElem?_eq_some_iff.1 hr).1
        rw [List.length_append, List.length_singleton] at this; omega
      subst hj2
      rw [List.getElem?_append_right (by omega), hlen, Nat.sub_self] at hr
      have : r = x := (Option.some.inj hr).symm
      subst this
      refine ⟨u, by rw [List.getElem?_append_right (Nat.le_refl _), Nat.sub_self]; rfl, hu.mono fun b o hb => ⟨.inr ⟨by have := h.hs; omega, by omega, fun e => ?_⟩, rfl⟩⟩
      have e2 : g5 = b := Option.some.inj e
      rcases hat with ha | ha
      · have := (hrl g5 ha).2; omega
      · omega
set_option maxHeartbeats 8000000 in
theorem distinct_walk (St : Nat → Nat → Prop) (keys : List (List Val)) (a : Option Addr) (b off cap : Nat) (kv : Nat → Value) (w : World) (hbd : ∀ b o, St b o → b < w.heap.size) (hld : Laid w) (hlen : keys.length ≤ 2000000) (hok : keysOK keys) (ha : keys ≠ [] → a = some ⟨b, off, none⟩ ∧ keys.length ≤ cap)
    (hcell : ∀ i, i < keys.length → w.cell? ⟨b, off + i, none⟩ = some (kv i) ∧ VRel En St w (kv i) (.dat (U := Un) Ty.val (keys.getD i []))) :
    Calls Tryd.prog 13 #[.slice a keys.length cap] w fun e w' => ∃ v cs D, e = .returned v ∧ RD St w keys keys.length v cs D w' := by
  have mixed : Tryd.prog.follows .mixedOrders = true := by kernel_rfl
  have hmm := @run_makeMap Tryd.prog
  go_enter Tryd.func13, Tryd.ntmps13
  go_wp2
  go_loopw [3, 15] (fun s3 s15 wr => ∃ (i cp : Nat) (g : Option Addr) (cs : List Value) (D : DataW Unit), i ≤ keys.length ∧ s3 = .slice g (gRun (keyAt keys) i).length cp ∧ s15 = .int .i64 i ∧ RD St w keys i (.slice g (gRun (keyAt keys) i).length cp) cs D wr) (fun _ s15 _ => keys.length - (intOf s15).toNat)
  case atStart =>
    have e0 : gRun (keyAt keys) 0 = [] := rfl
    have h1 : ∀ (h : Array Obj) (o : Obj), (h.push o)[h.size]? = some o := fun h o => by simp
    have hsz : (w.alloc (Obj.cells #[Value.int IntKind.i64 (-1), Value.string { data := #[] }] 39)).heap.size = w.heap.size + 1 := by simp
    refine ⟨0, 0, none, [], .map [], Nat.zero_le _, rfl, rfl, ⟨((Ext.refl w).alloc _).alloc _, by rw [← hsz]; exact World.ownsMap_made _ _ _ _, ⟨⟨[], rfl⟩, fun x _ _ => rfl⟩, ⟨-1, ⟨#[]⟩, ?_, .inl rfl⟩, World.ownsRow_nil _ _ _ _, fun j r hr => by simp [e0, heads] at hr, by simp⟩⟩
    rw [heap_alloc_old _ _ (by simp)]; exact h1 w.heap _
  case round =>
    obtain ⟨i, cp, g, cs, D, hi, rfl, rfl, hr⟩ := hrel
    have hGI := gRun_ok (keyAt keys) i
    have hgl : (gRun (keyAt keys) i).length ≤ i := gRun_len (keyAt keys) i
    by_cases hlt : i < keys.length
    · obtain ⟨rfl, hcap⟩ := ha (fun e => by rw [e] at hlt; simp at hlt)
      obtain ⟨x, hxd⟩ : ∃ x, x = keys.getD i [] := ⟨_, rfl⟩
      have hxm : x ∈ keys := by rw [hxd, List.getD_eq_getElem?_getD, List.getElem?_eq_getElem hlt]; exact List.getElem_mem _
      obtain ⟨ok1, ok2⟩ := hok x hxm
      have hkx := hkey x ok1 ok2
      have hka : keyAt keys (i : Int) = x := by rw [hxd]; unfold keyAt; rw [Int.toNat_natCast]
      obtain ⟨hce, hvr⟩ := hcell i hlt
      rw [← hxd] at hvr
      have hc : ∀ W, Ext w W → Calls Tryd.prog 18 #[kv i] W fun e w' => e = .returned (keyV x) ∧ Ext W w' := fun W hx => keyOf_calls (hvr.mono (ext_keep hx hbd)) ok1 ok2 (hld.ext hx)
      have hcl : ∀ W, Ext w W → Calls Tryd.prog 22 #[kv i] W fun e w' => ∃ v', e = .returned v' ∧ Ext W w' ∧ VRel En (fun b _ => W.heap.size ≤ b ∧ b < w'.heap.size) w' v' (.dat (U := Un) Ty.val x) := fun W hx => clone_calls (fun b o hs => Nat.lt_of_lt_of_le (hbd b o hs) hx.size) (hvr.mono (ext_keep hx hbd)) ok1 (hld.ext hx)
      have d1 := hr.ext.keeps hce
      unfold keyV at hkx hc
      have k0 : (i : Int) < (keys.length : Int) := by omega
      have th := hr.tie.has x ok1 ok2
      obtain ⟨lz, lt, hl1, hl2⟩ := hr.last
      generalize hout : gRun (keyAt keys) i = out at th hl2 hGI hgl ⊢
      have HR := Lib.hid hr
      have HC := Lib.hid hc
      have HCL := Lib.hid hcl
      have HX := Lib.hid hkx
      have HA := Lib.hid hka
      have HV := Lib.hid hvr
      have HL1 := Lib.hid hl1
      have HL2 := Lib.hid hl2
      clear hr hc hkx hka hxd hxm hcl hvr hce hl1 hl2
      by_cases hg : gAt (keyAt keys) x out < out.length
      · have hhas : Maps.has D (klOf x) = true := th.trans (decide_eq_true hg)
        clear th
        go_wp2_with (first
          | (go_at_call 18; refine (HC.out _ HR.out.ext).mono ?_; rintro e W1 ⟨rfl, hx1⟩; have MO := Lib.hid (HR.out.own.kept (grown_of_ext hx1) (by simp)))
          | (at_lookup; refine wpList_lookup_own_ok_int _ rfl _ _ 37 rfl 39 3 .i64 klaw Tryd.underlying37 Tryd.underlying3 (zeroI _) (w.heap.size + 1) i D rfl (MO.out.alloc _) _ (klOf x) rfl HX.out ?_; intro c hat hwc))
        obtain ⟨q1, q2⟩ := HR.out.found (hx1.trans ((Ext.refl W1).alloc (Obj.cells #[Value.int .i64 (x.length : Int), Value.string ⟨(keyT x).toArray⟩] 39))) HA.out (by rw [hout]; exact hg)
        rw [hout] at q1 q2
        exact ⟨⟨i + 1, cp, g, cs, D, by omega, by rw [q1], by go_num, by rw [q1]; exact q2⟩, by simp [intOf]; omega⟩
      · have hhas : Maps.has D (klOf x) = false := th.trans (decide_eq_false hg)
        clear th
        have hkey2 : (lz = (x.length : Int) ∧ ¬ keyT x = lt.toList) ∨ ¬ ((x.length : Int) = lz) := by
          rcases HL2.out with e | ⟨y, y1, y2, y3, y4, y5⟩
          · right; omega
          · by_cases e1 : (x.length : Int) = lz
            · refine .inl ⟨e1.symm, fun e2 => hg ?_⟩
              have : x = y := keyT_inj (by rw [e2, y4]; simp)
              rw [this]; exact y5
            · exact .inr e1
        have HG0 := Lib.hid hg
        clear hg
        obtain ⟨bO, iO, zO, hbO, _, _, undO, ho0, ho1, ho2, ho3, ho4⟩ := slOf (t := 22) (e := 33) (τ := .row) (by kernel_rfl)
        rcases hkey2 with ⟨rfl, e2⟩ | e1
        all_goals
          go_wp2_with (first
            | (go_at_call 18; refine (HC.out _ HR.out.ext).mono ?_; rintro e W1 ⟨rfl, hx1⟩; have MO := Lib.hid (HR.out.own.kept (grown_of_ext hx1) (by simp)); have LW := Lib.hid ((hx1.block (show w.heap.size < wr.heap.size by have := HR.out.hs; omega)).trans HL1.out); obtain ⟨q0, q1, q2, q3⟩ := key_cells LW.out; have ne0 : w.heap.size < W1.heap.size := (by have := HR.out.hs; have := hx1.size; omega); have ne1 : ¬ (w.heap.size = W1.heap.size) := (by omega); have ne2 : ¬ (W1.heap.size = w.heap.size) := (by omega); have HX1 := Lib.hid hx1; clear hx1)
            | (at_lookup; refine wpList_lookup_own_ok_int _ rfl _ _ 37 rfl 39 3 .i64 klaw Tryd.underlying37 Tryd.underlying3 (zeroI _) (w.heap.size + 1) i D rfl (MO.out.alloc _) _ (klOf x) rfl HX.out ?_; intro c hat hwc)
            | (at_mapUpdate; refine wpList_mapUpdate_own _ rfl _ _ _ 37 rfl 39 3 klaw Tryd.underlying37 _ (w.heap.size + 1) i D rfl (((MO.out.setCell (show w.heap.size + 1 ≠ w.heap.size by omega) _).setCell (show w.heap.size + 1 ≠ w.heap.size by omega) _).alloc _) (by unfold maxLen; omega) _ _ (klOf x) rfl rfl HX.out (.lit (.int .i64 i)) [] (plainElem_int Tryd.underlying3 (WalkArith.wf_i64 (by omega))) ?_; intro w3 hown3 hgrow3; have M3 := Lib.hid hown3; have DW := Lib.hid (dist_w3 HR.out HX1.out hgrow3 LW.out); clear hown3 hgrow3)
            | (go_at_call 22; refine (HCL.out _ DW.out.1).mono ?_; rintro e w4 ⟨u, rfl, hx4, hu4⟩; obtain ⟨ua, un, uc, rfl⟩ := vrel_slice hu4; have HX4 := Lib.hid hx4; have HU4 := Lib.hid hu4; have r4 := DW.out.2.1.kept (grown_of_ext hx4) (by cases (Value.slice g (gRun (keyAt keys) i).length cp).ownBlock <;> simp); rw [hout] at r4; have R4 := Lib.hid r4; clear hx4 hu4 r4)
            | (at_builtin; refine wpList_append_lies _ rfl _ _ _ rfl (w.heap.size + 2) 33 iO zO 1 bO undO ho0 ho3 ho1 ho2 ho4 (by omega) _ _ _ rfl (R4.out.alloc _) ⟨w4.heap.size, 0, none⟩ 1 1 [.slice ua un uc] rfl rfl (cell_one_new _ _ _) (by simp [Value.oneCell']) (by omega) (by unfold maxLen; omega) (Nat.le_trans (Nat.mul_le_mul (show out.length + 1 ≤ 2000001 by omega) hbO) (by decide)) (by have h1 := HR.out.hs; have h2 := DW.out.2.2.2.2; have h3 := HX4.out.size; simp; omega) _ rfl ?_; intro g5 cap5 w5 hown5 hgrow5 hat5 hlt5; have HO5 := Lib.hid hown5; have HG5 := Lib.hid hgrow5; have HA5 := Lib.hid hat5; clear hown5 hgrow5 hat5))
          obtain ⟨X3, R3, K3, L3, S3⟩ := DW.out
          have hrl := HR.out.row.lt
          have hob : (Value.slice g (gRun (keyAt keys) i).length cp).ownBlock = (Value.slice g out.length cp).ownBlock := by rw [hout]
          rw [hob] at hrl
          have hsz4 := HX4.out.size
          have hsz5 : w4.heap.size + 1 ≤ w5.heap.size := by have := HG5.out.size; simpa using this
          have far : ∀ b, b < w4.heap.size → (Value.slice g out.length cp).ownBlock ≠ some b → w5.heap[b]? = w4.heap[b]? := fun b hb hn => by
            rw [HG5.out.block b (by simp; omega) (fun e => hn e.symm), heap_alloc_old _ _ hb]
          have hs2 := HR.out.hs
          have hnw : ∀ k, k < w.heap.size + 2 → (Value.slice g out.length cp).ownBlock ≠ some k := fun k hk e => by have := (hrl k e).1; omega
          have hq := HR.out.fresh (w4 := w4) (w5 := w5) (g5 := g5) (cap5 := cap5) (u := .slice ua un uc) (D' := .lit (.int .i64 i)) HA.out ok1 ok2 (by rw [hout]; exact HG0.out)
            (ext_grown ((X3.trans HX4.out).alloc _) HG5.out (fun b hb => by have := (R4.out.lt b hb).1; omega)) (by omega) (by omega)
            (fun b h1 h2 h3 h4 => by rw [hob] at h4; rw [far b (by omega) h4, HX4.out.block (by omega)]; exact K3 b h1 h2 h3)
            (((M3.out.kept (grown_of_ext HX4.out) (by simp)).alloc _).kept HG5.out (fun e => hnw (w.heap.size + 1) (by omega) e.symm))
            (by rw [far _ (by omega) (hnw _ (by omega)), HX4.out.block (by omega)]; exact L3)
            (by rw [hout]; exact HO5.out)
            (hob ▸ (show (Value.slice g out.length cp).ownBlock = some g5 ∨ g5 = (w4.alloc (Obj.cells #[Value.slice ua un uc] 33)).heap.size from HA5.out).imp id (fun e => by rw [e]; simp))
            (HU4.out.mono fun b o hb => ⟨⟨by omega, hb.2⟩, by simp only [World.cell?]; rw [far b hb.2 (fun e => by have := (hrl b e).2; omega)]⟩)
          rw [hout] at hq
          exact ⟨⟨i + 1, cap5, some ⟨g5, 0, none⟩, cs ++ [.slice ua un uc], D.put (klOf x) (.lit (.int .i64 i)), by omega, by rw [hq.1], by go_num, by rw [hq.1]; exact hq.2⟩, by simp [intOf]; omega⟩
    · go_wp2_with fail
      go_ret
      have : i = keys.length := by omega
      subst this
      exact ⟨_, cs, D, rfl, hr⟩
def g_Distinct (l : List (List Val)) : List (List Val) := (r33_Groups l).map fun g => keyAt l (g.headD 0)
def F_grouper_Distinct : FnC Un := fun args => match args with
  | [x0] => (dL .row x0).bind fun keys => some ([keys.length ≤ 2000000 ∧ keysOK keys], [.c (.sl (U := Un) Ty.row (g_Distinct keys) false)], [])
  | _ => none
theorem rows_vrel {St : Nat → Nat → Prop} {w : World} {base : Nat} {te : TypeId} {v : Value} {cs : List Value} {l : List (List Val)} (h : w.ownsRow base te 1 v l.length cs) (hs : ∀ b o, v.ownBlock = some b → St b o) (hl : l.length ≤ 9223372036854775807)
    (hr : ∀ (j : Nat) r, l[j]? = some r → ∃ u, cs[j]? = some u ∧ VRel En St w u (.dat (U := Un) Ty.val r)) : VRel En St w v (.dat (U := Un) Ty.row l) := by
  have h' := h
  obtain ⟨_, ⟨rfl, h0⟩ | ⟨g, cap, cur, rfl, _, _, hcap, _⟩⟩ := h
  · have : l = [] := List.eq_nil_of_length_eq_zero h0
    subst this
    exact .nil _ _ _
  · refine VRel.dat (U := Un) Ty.row (l : List (Un.Den Ty.row)) g 0 cap (fun i j => cs.getD i undef) ⟨hcap, hl⟩ (fun i j hi hj => ?_) (fun i hi j d hd => ?_)
    · have hj0 : j = 0 := by have : j < 1 := hj; omega
      subst hj0
      obtain ⟨u, u1, _⟩ := hr i _ (List.getElem?_eq_getElem hi)
      have e : 0 + i * Un.sz Ty.row + 0 = i := by show 0 + i * 1 + 0 = i; omega
      refine ⟨hs _ _ rfl, ?_⟩
      rw [e, h'.cellAt i (by rw [Nat.mul_one]; exact hi), List.getD_eq_getElem?_getD, u1]; rfl
    · have hd' : ([.dat (U := Un) Ty.val (l[i]'hi)] : List (V Un))[j]? = some d := hd
      cases j with
      | zero =>
        simp at hd'; subst hd'
        obtain ⟨u, u1, u2⟩ := hr i _ (List.getElem?_eq_getElem hi)
        show VRel En St w (cs.getD i undef) _
        rw [List.getD_eq_getElem?_getD, u1]; exact u2
      | succ j => simp at hd'
theorem ok_grouper_Distinct : FnOK 13 F_grouper_Distinct := by
  intro args ob rs os h hob
  unfold F_grouper_Distinct at h
  split at h
  · simp only [Option.bind_eq_some_iff, Option.some.injEq, Prod.mk.injEq] at h
    obtain ⟨keys, e0, rfl, rfl, rfl⟩ := h
    obtain rfl := dL_eq e0
    obtain ⟨hlen, hok⟩ := hob _ (List.mem_singleton.2 rfl)
    refine ⟨?_, hasBody_of Tryd.func13 (by kernel_rfl) (by kernel_rfl)⟩
    intro w St vs hbd hvs hld
    match vs, hvs with
    | [v0], ⟨h0, _⟩ =>
      obtain ⟨a, b, off, cap, kv, rfl, ha, hc⟩ := rows_cells h0
      refine (distinct_walk St keys a b off cap kv w hbd hld hlen hok ha (fun i hi => ⟨(hc i hi).2.1, (hc i hi).2.2⟩)).mono ?_
      rintro e w' ⟨v, cs, D, rfl, hR⟩
      have hg := gRun_len (keyAt keys) keys.length
      have hhl : (g_Distinct keys).length = (gRun (keyAt keys) keys.length).length := by unfold g_Distinct r33_Groups; rw [List.length_map]
      refine ⟨v, rfl, ret_dat hR.ext hbd (rows_vrel (base := w.heap.size + 2) (te := 33) (by rw [hhl]; exact hR.row) (fun b o e => .inr ⟨by have := (hR.row.lt b e).1; omega, (hR.row.lt b e).2, by simp [Value.ownBlock]⟩) (by omega) (fun j r hr => ?_))⟩
      obtain ⟨u, u1, u2⟩ := hR.rel j r hr
      exact ⟨u, u1, u2.mono fun b o hb => ⟨by
        rcases hb with ⟨h1, h2⟩ | ⟨h1, h2, _⟩
        · exact .inl ⟨h1, h2⟩
        · exact .inr ⟨by omega, h2, by simp [Value.ownBlock]⟩, rfl⟩⟩
  · simp at h
end
end Go.Proofs.YtfdnnfbbjiglcaaDoor.B
namespace Go.Proofs.YtfdnnfbbjiglcaaDoor.B
open Go Go.RowKit
set_option maxRecDepth 100000
noncomputable section
attribute [local irreducible] awp ctxK itersK iterK retQ retGQ awf ctxF loopF
def M_l33_awake : Mc Un := mach (tbl [(17, F_value_Num), (8, F_grouper_Groups), (7, F_r33_Lists), (10, F_grouper_Sorted), (13, F_grouper_Distinct)]) (tbl []) (tbl []) (tbl []) (tbl [])
def A_l33_awake (r : Bool) : List (A Un) := [.c (.s (.bool r))]
def O_l33_awake (_r : Bool) : List (Ob Un) := []
def R_l33_awake (r : Bool) : RF Un := (A_l33_awake r, O_l33_awake r)
def N_l33_awake : Nat → NS := fun l => (look l []).getD ⟨[], [], [], [], [], true⟩
def l33_awake_fn : Option (RF Un) := awf M_l33_awake N_l33_awake (bodyOf Tryd.f6) (entry Tryd.f6.ntmps 0 []) (retF M_l33_awake Tryd.f6.results.toList [.d])
theorem l33_awake_in : l33_awake_fn =
 obO ([[(value_Num (5 : Int))], [zeroVal], [(value_Num (5 : Int))], [zeroVal], [(value_Num (1 : Int))]].length ≤ (2000000 : Nat) ∧ keysOK [[(value_Num (5 : Int))], [zeroVal], [(value_Num (5 : Int))], [zeroVal], [(value_Num (1 : Int))]])
  (cndO (r33_Lists (r33_Groups [[(value_Num (5 : Int))], [zeroVal], [(value_Num (5 : Int))], [zeroVal], [(value_Num (1 : Int))]]) [[(0 : Int), (2 : Int)], [(1 : Int), (3 : Int)], [(4 : Int)]])
   (obO ([[(value_Num (5 : Int))], [zeroVal], [(value_Num (5 : Int))], [zeroVal], [(value_Num (1 : Int))]].length ≤ (2000000 : Nat) ∧ keysOK [[(value_Num (5 : Int))], [zeroVal], [(value_Num (5 : Int))], [zeroVal], [(value_Num (1 : Int))]])
    (cndO (r33_Lists (g_Sorted [[(value_Num (5 : Int))], [zeroVal], [(value_Num (5 : Int))], [zeroVal], [(value_Num (1 : Int))]]) [[(1 : Int), (3 : Int)], [(4 : Int)], [(0 : Int), (2 : Int)]])
     (obO ([[(value_Num (5 : Int))], [zeroVal], [(value_Num (5 : Int))], [zeroVal], [(value_Num (1 : Int))]].length ≤ (2000000 : Nat) ∧ keysOK [[(value_Num (5 : Int))], [zeroVal], [(value_Num (5 : Int))], [zeroVal], [(value_Num (1 : Int))]])
      (some (R_l33_awake ((↑(g_Distinct [[(value_Num (5 : Int))], [zeroVal], [(value_Num (5 : Int))], [zeroVal], [(value_Num (1 : Int))]]).length : Int) == (3 : Int)))))
     (some (R_l33_awake (false)))))
   (some (R_l33_awake (false)))) := by kernel_rfl
def l33_awake : Bool := true
theorem l33_awake_spec : l33_awake_fn = some (R_l33_awake l33_awake) := by
  rw [l33_awake_in]
  have e : [[(value_Num (5 : Int))], [zeroVal], [(value_Num (5 : Int))], [zeroVal], [(value_Num (1 : Int))]] = exK := rfl
  have ho : exK.length ≤ 2000000 ∧ keysOK exK := ⟨by decide, exK_ok⟩
  have hd : (g_Distinct exK).length = 3 := by unfold g_Distinct; rw [exGroups]; rfl
  rw [e, obO_pos ho, obO_pos ho, obO_pos ho]
  simp only [cndO_eq]
  rw [exGroups, g_Sorted_eq, exSorted, hd, if_pos (by simp [r33_Lists]), if_pos (by simp [r33_Lists])]
  rfl
def F_l33_awake : FnC Un := fun args => match args with
  | [] => some ([], A_l33_awake (l33_awake), O_l33_awake (l33_awake))
  | _ => none
theorem ok_l33_awake : FnOK 6 F_l33_awake := by
  intro args ob rs os h hob
  unfold F_l33_awake at h
  split at h
  · simp only [Option.bind_eq_some_iff, Option.some.injEq, Prod.mk.injEq] at h
    obtain ⟨rfl, rfl, rfl⟩ := h
    exact ⟨fn_contractF (M := M_l33_awake) rfl (tbl_ok (l1 := [(17, F_value_Num), (8, F_grouper_Groups), (7, F_r33_Lists), (10, F_grouper_Sorted), (13, F_grouper_Distinct)]) (l2 := []) (l3 := []) (l4 := []) (l5 := []) ⟨ok_value_Num, ok_grouper_Groups, ok_r33_Lists, ok_grouper_Sorted, ok_grouper_Distinct, trivial⟩ trivial trivial trivial trivial) Tryd.func6 (by kernel_rfl) N_l33_awake 0 [.d] (fun hwf => (l33_awake_spec)), hasBody_of Tryd.func6 (by kernel_rfl) (by kernel_rfl)⟩
  · simp at h
end
end Go.Proofs.YtfdnnfbbjiglcaaDoor.B
namespace Go.Proofs.YtfdnnfbbjiglcaaDoor.B
open Go Go.RowKit
set_option linter.unusedVariables false
noncomputable section
def fstS (acc : List (List Val)) (x : List Val) : List (List Val) := if x ∈ acc then acc else acc ++ [x]
def firsts (l : List (List Val)) : List (List Val) := l.foldl fstS []
theorem firsts_in : ∀ (l acc : List (List Val)), (∀ x ∈ l, x ∈ acc) → l.foldl fstS acc = acc
  | [], _, _ => rfl
  | x :: l, acc, h => by
    rw [List.foldl_cons]
    unfold fstS
    rw [if_pos (h x List.mem_cons_self)]
    exact firsts_in l acc fun y hy => h y (List.mem_cons_of_mem _ hy)
theorem firsts_mem : ∀ (l acc : List (List Val)) (x : List Val), x ∈ l.foldl fstS acc ↔ x ∈ acc ∨ x ∈ l
  | [], acc, x => by simp
  | y :: l, acc, x => by
    rw [List.foldl_cons, firsts_mem l, List.mem_cons]
    unfold fstS
    split
    · rename_i h
      constructor
      · rintro (h1 | h1)
        · exact .inl h1
        · exact .inr (.inr h1)
      · rintro (h1 | rfl | h1)
        · exact .inl h1
        · exact .inl h
        · exact .inr h1
    · rw [List.mem_append, List.mem_singleton, or_assoc]
theorem firsts_nodup : ∀ (l acc : List (List Val)), acc.Nodup → (l.foldl fstS acc).Nodup
  | [], _, h => h
  | y :: l, acc, h => by
    rw [List.foldl_cons]
    refine firsts_nodup l _ ?_
    unfold fstS
    split
    · exact h
    · rename_i hn
      refine List.nodup_append.2 ⟨h, by simp, fun a ha b hb => ?_⟩
      rw [List.mem_singleton] at hb
      rintro rfl
      subst hb
      exact hn ha
theorem firsts_id : ∀ (l acc : List (List Val)), (acc ++ l).Nodup → l.foldl fstS acc = acc ++ l
  | [], acc, _ => by simp
  | y :: l, acc, h => by
    rw [List.foldl_cons]
    have hn : y ∉ acc := fun hy => (List.nodup_append.1 h).2.2 y hy y List.mem_cons_self rfl
    unfold fstS
    rw [if_neg hn]
    have := firsts_id l (acc ++ [y]) (by simpa using h)
    unfold fstS at this
    rw [this]; simp
theorem firsts_twice (l : List (List Val)) : firsts (l ++ l) = firsts l := by
  unfold firsts
  rw [List.foldl_append]
  exact firsts_in l _ fun x hx => (firsts_mem l [] x).2 (.inr hx)
theorem firsts_again (l : List (List Val)) : firsts (firsts l) = firsts l := by
  have := firsts_id (firsts l) [] (by rw [List.nil_append]; exact firsts_nodup l [] List.nodup_nil)
  rwa [List.nil_append] at this
theorem heads_mem {key : Int → List Val} {out : List (List Int)} {x : List Val} : x ∈ heads key out ↔ gAt key x out < out.length := by
  constructor
  · intro h
    obtain ⟨g, hg, rfl⟩ := List.mem_map.1 h
    unfold gAt
    exact List.findIdx_lt_length_of_exists ⟨g, hg, by simp⟩
  · intro h
    have := gAt_lt key h
    refine List.mem_map.2 ⟨out.getD (gAt key x out) [], ?_, this⟩
    rw [List.getD_eq_getElem?_getD, List.getElem?_eq_getElem h]
    exact List.getElem_mem _
theorem heads_firsts (l : List (List Val)) : ∀ n, n ≤ l.length → heads (keyAt l) (gRun (keyAt l) n) = (l.take n).foldl fstS []
  | 0, _ => rfl
  | n + 1, h => by
    have ih := heads_firsts l n (by omega)
    have hGI := gRun_ok (keyAt l) n
    have hk : keyAt l (n : Int) = l[n] := by unfold keyAt; rw [Int.toNat_natCast, List.getD_eq_getElem?_getD, List.getElem?_eq_getElem (by omega)]; rfl
    rw [List.take_add_one, List.getElem?_eq_getElem (by omega), List.foldl_append, ← ih, gRun_succ]
    show _ = fstS _ l[n]
    rw [← hk]
    unfold gStep gAdd fstS
    by_cases c : gAt (keyAt l) (keyAt l (n : Int)) (gRun (keyAt l) n) < (gRun (keyAt l) n).length
    · rw [if_pos c, if_pos (heads_mem.2 c)]
      exact heads_app c (hGI.ne _ c)
    · rw [if_neg c, if_neg (fun e => c (heads_mem.1 e))]
      unfold heads
      rw [List.map_append]; rfl
theorem dist_firsts (l : List (List Val)) : g_Distinct l = firsts l := by
  have := heads_firsts l l.length (Nat.le_refl _)
  rw [List.take_length] at this
  exact this
theorem leR_anti {x y : List Val} (h1 : leP ordR x y = true) (h2 : leP ordR y x = true) : x = y := by
  unfold leP at h1 h2
  simp only [Bool.not_eq_true', decide_eq_false_iff_not] at h1 h2
  have := ordR_anti x y
  exact ordR_zero.1 (by omega)
theorem srtR_eq {a b : List (List Val)} (h : a.Perm b) (h1 : SrtS (leP ordR) a) (h2 : SrtS (leP ordR) b) : a = b := perm_srt_eq h h1 h2 fun x y _ _ => leR_anti
theorem vsorted_perm {a b : List (List Val)} (h : a.Perm b) : value_Sorted a = value_Sorted b := by
  have hp := leP_pre (p := ordR) rfl
  exact srtR_eq ((sortS_perm hp a).trans (h.trans (sortS_perm hp b).symm)) (sortS_srt hp a) (sortS_srt hp b)
theorem firsts_perm {a b : List (List Val)} (h : ∀ x, x ∈ a ↔ x ∈ b) : (firsts a).Perm (firsts b) := by
  refine (List.perm_ext_iff_of_nodup (firsts_nodup a [] List.nodup_nil) (firsts_nodup b [] List.nodup_nil)).2 fun x => ?_
  rw [firsts_mem, firsts_mem, h]
theorem gkeys_eq (l : List (List Val)) : (g_Sorted l).map (hkG l) = value_Sorted (g_Distinct l) := by
  have hp := leP_pre (p := ordR) rfl
  refine srtR_eq (((g_Sorted_perm l).map (hkG l)).trans (sortS_perm hp (g_Distinct l)).symm) ?_ (sortS_srt hp _)
  refine List.pairwise_map.2 ((g_Sorted_srt l).imp fun {a b} h => ?_)
  exact h
theorem grp_len (l : List (List Val)) : ∀ n, n ≤ l.length → ∀ k, k < (gRun (keyAt l) n).length → ((gRun (keyAt l) n).getD k []).length = (l.take n).countP fun x => decide (x = keyAt l (((gRun (keyAt l) n).getD k []).headD 0))
  | 0, _, k, hk => by simp [gRun] at hk
  | n + 1, h, k, hk => by
    have ih := grp_len l n (by omega)
    have hGI := gRun_ok (keyAt l) n
    have hkn : keyAt l (n : Int) = l[n] := by unfold keyAt; rw [Int.toNat_natCast, List.getD_eq_getElem?_getD, List.getElem?_eq_getElem (by omega)]; rfl
    have htk : l.take (n + 1) = l.take n ++ [l[n]] := by rw [List.take_add_one, List.getElem?_eq_getElem (by omega)]; rfl
    rw [gRun_succ] at hk ⊢
    generalize hout : gRun (keyAt l) n = out at ih hGI hk ⊢
    unfold gStep gAdd at hk ⊢
    rw [htk]
    simp only [List.countP_append, List.countP_singleton]
    by_cases c : gAt (keyAt l) (keyAt l (n : Int)) out < out.length
    · rw [if_pos c] at hk ⊢
      rw [List.length_set] at hk
      have hx := gAt_lt (keyAt l) c
      have hne := hGI.ne _ c
      rw [getD_set' _ _ _ _ _ c]
      by_cases e : k = gAt (keyAt l) (keyAt l (n : Int)) out
      · rw [if_pos e]
        have hd : (out.getD (gAt (keyAt l) (keyAt l (n : Int)) out) [] ++ [(n : Int)]).headD 0 = (out.getD (gAt (keyAt l) (keyAt l (n : Int)) out) []).headD 0 := by
          cases hc : out.getD (gAt (keyAt l) (keyAt l (n : Int)) out) [] with
          | nil => exact (hne hc).elim
          | cons a r => rfl
        rw [hd, List.length_append, List.length_singleton, ih _ c, hx, hkn]
        simp
      · rw [if_neg e, ih k hk]
        have : ¬ l[n] = keyAt l ((out.getD k []).headD 0) := fun e2 => e (gAt_eq (keyAt l) hGI hk (by rw [hkn, e2])).symm
        rw [if_neg (by rw [decide_eq_true_eq]; exact this), Nat.add_zero]
    · rw [if_neg c] at hk ⊢
      have hno := gAt_not (keyAt l) c
      rw [List.length_append, List.length_singleton] at hk
      rw [getD_snoc]
      by_cases e : k = out.length
      · rw [if_pos e]
        have h0 : (l.take n).countP (fun x => decide (x = keyAt l (([(n : Int)] : List Int).headD 0))) = 0 := by
          rw [List.countP_eq_zero]
          intro x hx hd
          have hd : x = keyAt l (n : Int) := of_decide_eq_true hd
          obtain ⟨j, hj, rfl⟩ := List.mem_iff_getElem.1 hx
          rw [List.length_take] at hj
          rw [List.getElem_take] at hd
          obtain ⟨q, hq, hm⟩ := hGI.all (j : Int) (by omega) (by omega)
          have hmm := (hGI.mem q _ hm).2.2
          have hkj : keyAt l (j : Int) = l[j] := by unfold keyAt; rw [Int.toNat_natCast, List.getD_eq_getElem?_getD, List.getElem?_eq_getElem (by omega)]; rfl
          exact hno q hq (by rw [← hmm, hkj, hd])
        rw [h0]
        have : keyAt l (([(n : Int)] : List Int).headD 0) = l[n] := hkn
        rw [this]; simp
      · rw [if_neg e, ih k (by omega)]
        have : ¬ l[n] = keyAt l ((out.getD k []).headD 0) := fun e2 => hno k (by omega) (by rw [hkn, e2])
        rw [if_neg (by rw [decide_eq_true_eq]; exact this), Nat.add_zero]
theorem gS_get (l : List (List Val)) {i : Nat} (hi : i < (g_Sorted l).length) : ∃ k, k < (r33_Groups l).length ∧ (g_Sorted l).getD i [] = (r33_Groups l).getD k [] := by
  have hm : (g_Sorted l)[i] ∈ r33_Groups l := (g_Sorted_perm l).subset (List.getElem_mem hi)
  obtain ⟨k, hk, e⟩ := List.mem_iff_getElem.1 hm
  refine ⟨k, hk, ?_⟩
  rw [List.getD_eq_getElem?_getD, List.getElem?_eq_getElem hi, List.getD_eq_getElem?_getD, List.getElem?_eq_getElem hk]
  exact e.symm
theorem gS_len (l : List (List Val)) {i : Nat} (hi : i < (g_Sorted l).length) : ((g_Sorted l).getD i []).length = l.countP fun x => decide (x = hkG l ((g_Sorted l).getD i [])) := by
  obtain ⟨k, hk, e⟩ := gS_get l hi
  rw [e]
  have := grp_len l l.length (Nat.le_refl _) k hk
  rw [List.take_length] at this
  exact this
theorem gS_keys (l : List (List Val)) : (g_Sorted l.reverse).map (hkG l.reverse) = (g_Sorted l).map (hkG l) := by
  rw [gkeys_eq, gkeys_eq, dist_firsts, dist_firsts]
  exact vsorted_perm (firsts_perm fun x => List.mem_reverse)
theorem gS_mem (l : List (List Val)) {i : Nat} (hi : i < (g_Sorted l).length) : 0 < ((g_Sorted l).getD i []).length ∧ ((g_Sorted l).getD i []).length ≤ l.length ∧ 0 ≤ ((g_Sorted l).getD i []).getD 0 0 ∧ ((g_Sorted l).getD i []).getD 0 0 < (l.length : Int) := by
  have hm : (g_Sorted l)[i] ∈ r33_Groups l := (g_Sorted_perm l).subset (List.getElem_mem hi)
  have e : (g_Sorted l).getD i [] = (g_Sorted l)[i] := by rw [List.getD_eq_getElem?_getD, List.getElem?_eq_getElem hi]; rfl
  rw [e, getD_headD]
  exact grp_mem l hm
theorem gS_rlen (l : List (List Val)) : (g_Sorted l.reverse).length = (g_Sorted l).length := by
  have := congrArg List.length (gS_keys l)
  simpa using this
theorem gS_dlen (l : List (List Val)) : (g_Sorted l).length = (g_Distinct l).length := by
  have h := congrArg List.length (gkeys_eq l)
  rw [List.length_map] at h
  rw [h]
  exact (sortS_perm (leP_pre (p := ordR) rfl) (g_Distinct l)).length_eq
theorem gS_key (l : List (List Val)) {i : Nat} (hi : i < (g_Sorted l).length) : hkG l.reverse ((g_Sorted l.reverse).getD i []) = hkG l ((g_Sorted l).getD i []) := by
  have h := congrArg (fun x : List (List Val) => x[i]?) (gS_keys l)
  have hi2 : i < (g_Sorted l.reverse).length := by rw [gS_rlen]; exact hi
  simp only [List.getElem?_map, List.getElem?_eq_getElem hi, List.getElem?_eq_getElem hi2, Option.map_some, Option.some.injEq] at h
  rw [List.getD_eq_getElem?_getD, List.getElem?_eq_getElem hi2, List.getD_eq_getElem?_getD, List.getElem?_eq_getElem hi]
  exact h
theorem gS_lens (l : List (List Val)) {i : Nat} (hi : i < (g_Sorted l).length) : ((g_Sorted l.reverse).getD i []).length = ((g_Sorted l).getD i []).length := by
  rw [gS_len l hi, gS_len l.reverse (by rw [gS_rlen]; exact hi), gS_key l hi, List.countP_reverse]
theorem gS_rise (l : List (List Val)) {i : Nat} (hi : i + 1 < (g_Sorted l).length) : ordR (hkG l ((g_Sorted l).getD i [])) (hkG l ((g_Sorted l).getD (i + 1) [])) < 0 := by
  have hs := (List.pairwise_iff_getElem.1 (g_Sorted_srt l)) i (i + 1) (by omega) hi (by omega)
  have hn : ((g_Sorted l).map (hkG l)).Nodup := by
    rw [gkeys_eq, dist_firsts]
    exact (sortS_perm (leP_pre (p := ordR) rfl) (firsts l)).symm.nodup (firsts_nodup l [] List.nodup_nil)
  have hne := (List.pairwise_iff_getElem.1 hn) i (i + 1) (by rw [List.length_map]; omega) (by rw [List.length_map]; exact hi) (by omega)
  rw [List.getElem_map, List.getElem_map] at hne
  rw [leG_iff] at hs
  rw [List.getD_eq_getElem?_getD, List.getElem?_eq_getElem (show i < _ by omega), List.getD_eq_getElem?_getD, List.getElem?_eq_getElem hi]
  show ordR (hkG l (g_Sorted l)[i]) (hkG l (g_Sorted l)[i + 1]) < 0
  have h1 := ordR_anti (hkG l (g_Sorted l)[i]) (hkG l (g_Sorted l)[i + 1])
  have h2 : ordR (hkG l (g_Sorted l)[i]) (hkG l (g_Sorted l)[i + 1]) ≠ 0 := fun e => hne (ordR_zero.1 e)
  omega
theorem dist_sub (l : List (List Val)) {x : List Val} (h : x ∈ g_Distinct l) : x ∈ l := by
  rw [dist_firsts] at h
  rcases (firsts_mem l [] x).1 h with h | h
  · simp at h
  · exact h
theorem dist_len (l : List (List Val)) : (g_Distinct l).length ≤ l.length := by
  rw [← gS_dlen, (g_Sorted_perm l).length_eq]
  exact gRun_len (keyAt l) l.length
theorem dist_rows {l : List (List Val)} (h : rowsOK l) : rowsOK (g_Distinct l) := ⟨Nat.le_trans (dist_len l) h.1, fun x hx => h.2 x (dist_sub l hx)⟩
theorem dist_keys {l : List (List Val)} (h : keysOK l) : keysOK (g_Distinct l) := fun x hx => h x (dist_sub l hx)
end
end Go.Proofs.YtfdnnfbbjiglcaaDoor.B
namespace Go.Proofs.YtfdnnfbbjiglcaaDoor.B
open Go Go.RowKit
set_option maxRecDepth 100000
noncomputable section
attribute [local irreducible] awp ctxK itersK iterK retQ retGQ awf ctxF loopF
def M_l33_GrouperTurns : Mc Un := mach (tbl [(6, F_l33_awake), (13, F_grouper_Distinct), (10, F_grouper_Sorted), (15, F_value_Orders), (16, F_value_Sorted), (12, F_r03_List)]) (tbl []) (tbl []) (tbl []) (tbl [])
def A_l33_GrouperTurns (r : Bool) : List (A Un) := [.c (.s (.bool r))]
def O_l33_GrouperTurns (_r : Bool) : List (Ob Un) := []
def R_l33_GrouperTurns (r : Bool) : RF Un := (A_l33_GrouperTurns r, O_l33_GrouperTurns r)
def N_l33_GrouperTurns : Nat → NS := fun l => (look l [(6, { ts := bl 143 57, bs := bl 143 0, nm := [(.sl 4, 572)], cs := true }), (13, { ts := bl 143 477, bs := bl 143 0, nm := [(.sl 4, 573)], cs := true })]).getD ⟨[], [], [], [], [], true⟩
def l33_GrouperTurns_s6 (l : List (List Val)) (v0 : Int) (v1 : List (List Val)) : S Un := (st 143 143 574 0 [(0, al .row l), (3, al .row (g_Distinct l)), (4, ao 572), (5, ai v0)] [] [(572, some ⟨(0 : Nat), Ty.row, v1, some (0 : Nat), true⟩)])
def l33_GrouperTurns_s13 (l : List (List Val)) (v1 : List (List Val)) (v2 : Int) : S Un := (st 143 143 574 0 [(0, al .row l), (3, al .row (g_Distinct l)), (4, ao 573), (6, al .ints (g_Sorted l)), (7, al .ints (g_Sorted v1)), (8, ai v2)] [] [(573, some ⟨(0 : Nat), Ty.row, v1, none, true⟩)])
def l33_GrouperTurns_e13_ret (l : List (List Val)) (v1 : List (List Val)) (v2 : Int) : S Un := (st 143 143 574 0 [(0, al .row l), (2, ab false), (3, al .row (g_Distinct l)), (4, ao 573), (6, al .ints (g_Sorted l)), (7, al .ints (g_Sorted v1)), (8, ai v2)] [] [(573, some ⟨(0 : Nat), Ty.row, v1, none, true⟩)])
noncomputable def l33_GrouperTurns_B6 : Code := sub (bodyOf Tryd.f5) [1, 1, 1, 1, 0, 1, 2, 2]
def l33_GrouperTurns_L6 : S Un → Option (EX Un) := loopF (N_l33_GrouperTurns 6) (fun s Q => awf M_l33_GrouperTurns N_l33_GrouperTurns l33_GrouperTurns_B6 s Q)
noncomputable def l33_GrouperTurns_B13 : Code := sub (bodyOf Tryd.f5) [1, 1, 1, 1, 1, 1, 1, 0, 1, 2, 2]
def l33_GrouperTurns_L13 : S Un → Option (EX Un) := loopF (N_l33_GrouperTurns 13) (fun s Q => awf M_l33_GrouperTurns N_l33_GrouperTurns l33_GrouperTurns_B13 s Q)
def l33_GrouperTurns_C6 : Exit → S Un → Option (RF Un) := ctxF M_l33_GrouperTurns N_l33_GrouperTurns (bodyOf Tryd.f5) [1, 1, 1, 1, 0, 1, 2] (retF M_l33_GrouperTurns Tryd.f5.results.toList [.d])
def l33_GrouperTurns_C13 : Exit → S Un → Option (RF Un) := ctxF M_l33_GrouperTurns N_l33_GrouperTurns (bodyOf Tryd.f5) [1, 1, 1, 1, 1, 1, 1, 0, 1, 2] (retF M_l33_GrouperTurns Tryd.f5.results.toList [.d])
def l33_GrouperTurns_fn (l : List (List Val)) : Option (RF Un) := awf M_l33_GrouperTurns N_l33_GrouperTurns (bodyOf Tryd.f5) (entry Tryd.f5.ntmps 2 [.d (.v (.dat (U := Un) Ty.row l))]) (retF M_l33_GrouperTurns Tryd.f5.results.toList [.d])
theorem l33_GrouperTurns_in (l : List (List Val)) : l33_GrouperTurns_fn l =
 cndO (decide ((↑l.length : Int) > (60 : Int)))
  (some (R_l33_GrouperTurns (l33_awake)))
  (obO (l.length ≤ (2000000 : Nat) ∧ keysOK l)
   ((l33_GrouperTurns_L6 (l33_GrouperTurns_s6 l (IntKind.i64.wrap ((↑l.length : Int) - (1 : Int))) ([]))).bind (thenX l33_GrouperTurns_C6))) := by kernel_rfl
theorem l33_GrouperTurns_l6 (l : List (List Val)) (v0 : Int) (v1 : List (List Val)) : l33_GrouperTurns_L6 (l33_GrouperTurns_s6 l v0 v1) =
 cndO (decide (v0 ≥ 0))
  (obO (0 ≤ v0 ∧ v0 < (↑l.length : Int))
   (obO ((v1.length + [l.getD v0.toNat []].length) * (24 : Nat) ≤ roomB)
    (l33_GrouperTurns_L6 (l33_GrouperTurns_s6 l (IntKind.i64.wrap (v0 - 1)) (v1 ++ [l.getD v0.toNat []])))))
  (some (.exit 0, (l33_GrouperTurns_s6 l v0 v1))) := (loopF_eq (N_l33_GrouperTurns 6) l33_GrouperTurns_B6 _).trans (by kernel_rfl)
theorem l33_GrouperTurns_a6_x0 (l : List (List Val)) (v0 : Int) (v1 : List (List Val)) : l33_GrouperTurns_C6 (.exit 0) (l33_GrouperTurns_s6 l v0 v1) =
 obO (l.length ≤ (2000000 : Nat) ∧ keysOK l)
  (obO (v1.length ≤ (2000000 : Nat) ∧ keysOK v1)
   (cndO ((↑(g_Sorted l).length : Int) != (↑(g_Sorted v1).length : Int))
    (some (R_l33_GrouperTurns (false)))
    (cndO ((↑(g_Sorted l).length : Int) != (↑(g_Distinct l).length : Int))
     (some (R_l33_GrouperTurns (false)))
     ((l33_GrouperTurns_L13 (l33_GrouperTurns_s13 l v1 (0 : Int))).bind (thenX l33_GrouperTurns_C13))))) := by kernel_rfl
theorem l33_GrouperTurns_l13 (l : List (List Val)) (v1 : List (List Val)) (v2 : Int) : l33_GrouperTurns_L13 (l33_GrouperTurns_s13 l v1 v2) =
 cndO (decide (v2 < (↑(g_Sorted l).length : Int)))
  (obO (0 ≤ v2 ∧ v2 < (↑(g_Sorted l).length : Int))
   (cndO ((↑(List.length ((g_Sorted l).getD v2.toNat [])) : Int) == (0 : Int))
    (some (.ret, (l33_GrouperTurns_e13_ret l v1 v2)))
    (obO (0 ≤ v2 ∧ v2 < (↑(g_Sorted l).length : Int))
     (obO (0 ≤ v2 ∧ v2 < (↑(g_Sorted v1).length : Int))
      (cndO ((↑(List.length ((g_Sorted l).getD v2.toNat [])) : Int) != (↑(List.length ((g_Sorted v1).getD v2.toNat [])) : Int))
       (some (.ret, (l33_GrouperTurns_e13_ret l v1 v2)))
       (obO (0 ≤ v2 ∧ v2 < (↑(g_Sorted l).length : Int))
        (obO ((0 : Int) ≤ (0 : Int) ∧ (0 : Int) < (↑(List.length ((g_Sorted l).getD v2.toNat [])) : Int))
         (obO (0 ≤ List.getD ((g_Sorted l).getD v2.toNat []) 0 (0 : Int) ∧ List.getD ((g_Sorted l).getD v2.toNat []) 0 (0 : Int) < (↑l.length : Int))
          (obO (0 ≤ v2 ∧ v2 < (↑(g_Sorted v1).length : Int))
           (obO ((0 : Int) ≤ (0 : Int) ∧ (0 : Int) < (↑(List.length ((g_Sorted v1).getD v2.toNat [])) : Int))
            (obO (0 ≤ List.getD ((g_Sorted v1).getD v2.toNat []) 0 (0 : Int) ∧ List.getD ((g_Sorted v1).getD v2.toNat []) 0 (0 : Int) < (↑v1.length : Int))
             (cndO (value_Orders (l.getD (Int.toNat (List.getD ((g_Sorted l).getD v2.toNat []) 0 (0 : Int))) []) (v1.getD (Int.toNat (List.getD ((g_Sorted v1).getD v2.toNat []) 0 (0 : Int))) []) != 0)
              (some (.ret, (l33_GrouperTurns_e13_ret l v1 v2)))
              (cndO (decide (v2 > 0))
               (obO (0 ≤ IntKind.i64.wrap (v2 - 1) ∧ IntKind.i64.wrap (v2 - 1) < (↑(g_Sorted l).length : Int))
                (obO ((0 : Int) ≤ (0 : Int) ∧ (0 : Int) < (↑(List.length ((g_Sorted l).getD (IntKind.i64.wrap (v2 - 1)).toNat [])) : Int))
                 (obO (0 ≤ List.getD ((g_Sorted l).getD (IntKind.i64.wrap (v2 - 1)).toNat []) 0 (0 : Int) ∧ List.getD ((g_Sorted l).getD (IntKind.i64.wrap (v2 - 1)).toNat []) 0 (0 : Int) < (↑l.length : Int))
                  (obO (0 ≤ v2 ∧ v2 < (↑(g_Sorted l).length : Int))
                   (obO ((0 : Int) ≤ (0 : Int) ∧ (0 : Int) < (↑(List.length ((g_Sorted l).getD v2.toNat [])) : Int))
                    (obO (0 ≤ List.getD ((g_Sorted l).getD v2.toNat []) 0 (0 : Int) ∧ List.getD ((g_Sorted l).getD v2.toNat []) 0 (0 : Int) < (↑l.length : Int))
                     (cndO (decide (value_Orders (l.getD (Int.toNat (List.getD ((g_Sorted l).getD (IntKind.i64.wrap (v2 - 1)).toNat []) 0 (0 : Int))) []) (l.getD (Int.toNat (List.getD ((g_Sorted l).getD v2.toNat []) 0 (0 : Int))) []) ≥ 0))
                      (some (.ret, (l33_GrouperTurns_e13_ret l v1 v2)))
                      (l33_GrouperTurns_L13 (l33_GrouperTurns_s13 l v1 (IntKind.i64.wrap (v2 + 1)))))))))))
               (l33_GrouperTurns_L13 (l33_GrouperTurns_s13 l v1 (IntKind.i64.wrap (v2 + 1)))))))))))))))))
  (some (.exit 2, (l33_GrouperTurns_s13 l v1 v2))) := (loopF_eq (N_l33_GrouperTurns 13) l33_GrouperTurns_B13 _).trans (by kernel_rfl)
theorem l33_GrouperTurns_a13_x2 (l : List (List Val)) (v1 : List (List Val)) (v2 : Int) : l33_GrouperTurns_C13 (.exit 2) (l33_GrouperTurns_s13 l v1 v2) =
 cndO (l33_awake)
  (obO (rowsOK (g_Distinct l))
   (obO (v1.length ≤ (2000000 : Nat) ∧ keysOK v1)
    (obO (rowsOK (g_Distinct v1))
     (cndO (r03_List (value_Sorted (g_Distinct l)) (value_Sorted (g_Distinct v1)))
      (obO ((0 + l.length) * (24 : Nat) ≤ roomB)
       (obO (((l).length + l.length) * (24 : Nat) ≤ roomB)
        (obO ((l ++ l).length ≤ (2000000 : Nat) ∧ keysOK (l ++ l))
         (cndO (r03_List (g_Distinct (l ++ l)) (g_Distinct l))
          (obO ((g_Distinct l).length ≤ (2000000 : Nat) ∧ keysOK (g_Distinct l))
           (some (R_l33_GrouperTurns (r03_List (g_Distinct (g_Distinct l)) (g_Distinct l)))))
          (some (R_l33_GrouperTurns (false)))))))
      (some (R_l33_GrouperTurns (false)))))))
  (some (R_l33_GrouperTurns (false))) := by kernel_rfl
def l33_GrouperTurns (_l : List (List Val)) : Bool := true
theorem turns_loop (l : List (List Val)) (hl : l.length ≤ 60) : ∀ (k : Nat) (o : List (List Val)), k ≤ l.length → o = (l.drop k).reverse → ∃ v, l33_GrouperTurns_L6 (l33_GrouperTurns_s6 l ((k : Int) - 1) o) = some (.exit 0, l33_GrouperTurns_s6 l v l.reverse)
  | 0, o, _, ho => by
    refine ⟨((0 : Nat) : Int) - 1, ?_⟩
    rw [l33_GrouperTurns_l6, cndO_eq, if_neg (by simp), ho, List.drop_zero]
  | k + 1, o, hk, ho => by
    have hlt : k < l.length := by omega
    obtain ⟨v, hv⟩ := turns_loop l hl k (o ++ [l.getD k []]) (by omega) (by
      rw [ho, List.drop_eq_getElem_cons hlt, List.reverse_cons, List.getD_eq_getElem?_getD, List.getElem?_eq_getElem hlt]; rfl)
    refine ⟨v, ?_⟩
    have hol : o.length ≤ 60 := by rw [ho, List.length_reverse, List.length_drop]; omega
    have e : ((k + 1 : Nat) : Int) - 1 = (k : Int) := by omega
    rw [l33_GrouperTurns_l6, e, cndO_eq, if_pos (by simp), obO_pos (by omega), obO_pos (by unfold roomB; rw [List.length_singleton]; omega), wrap_id (by omega), Int.toNat_natCast]
    exact hv
theorem r03_List_self (a b : List (List Val)) (h : a = b) : r03_List a b = true := by
  subst h
  unfold r03_List
  rw [deq_iff]
theorem l33_GrouperTurns_spec (l : List (List Val)) (_hl : WL .row l) (h : l.length ≤ 60 → keysOK l ∧ rowsOK l) : l33_GrouperTurns_fn l = some (R_l33_GrouperTurns (l33_GrouperTurns l)) := by
  rw [l33_GrouperTurns_in]
  simp only [cndO_eq]
  by_cases hn : (l.length : Int) > 60
  · rw [if_pos (by simpa using hn)]; rfl
  obtain ⟨h1, h2⟩ := h (by omega)
  have ho : l.length ≤ 2000000 ∧ keysOK l := ⟨by omega, h1⟩
  have h1r : keysOK l.reverse := fun x hx => h1 x (List.mem_reverse.1 hx)
  have hor : l.reverse.length ≤ 2000000 ∧ keysOK l.reverse := ⟨by rw [List.length_reverse]; omega, h1r⟩
  have h2r : rowsOK l.reverse := ⟨by rw [List.length_reverse]; omega, fun x hx => h2.2 x (List.mem_reverse.1 hx)⟩
  obtain ⟨v, L1⟩ := turns_loop l (by omega) l.length [] (Nat.le_refl _) (by rw [List.drop_length]; rfl)
  rw [if_neg (by simpa using hn), obO_pos ho, wrap_id (by omega)]
  refine (loop_end L1).trans ?_
  rw [l33_GrouperTurns_a6_x0, obO_pos ho, obO_pos hor]
  have hAl : (g_Sorted l).length ≤ l.length := by rw [gS_dlen]; exact dist_len l
  have hBl := gS_rlen l
  simp only [cndO_eq]
  rw [if_neg (by rw [hBl]; simp), if_neg (by rw [gS_dlen]; simp)]
  obtain ⟨_, _, L2⟩ := loop_inv (L := l33_GrouperTurns_L13) (st := fun (_ : Unit) i => l33_GrouperTurns_s13 l l.reverse i) (n := (g_Sorted l).length) (by omega) (fun _ _ => True) (e := .exit 2)
    (fun _ i hi _ => by
      obtain ⟨m1, m2, m3, m4⟩ := gS_mem l hi
      obtain ⟨r1, r2, r3, r4⟩ := gS_mem l.reverse (i := i) (by omega)
      have hk := gS_key l hi
      have hll := gS_lens l hi
      refine ⟨(), trivial, ?_⟩
      rw [l33_GrouperTurns_l13]
      simp only [cndO_eq, Int.toNat_natCast]
      rw [if_pos (by simp; omega), obO_pos (by omega), if_neg (by rw [beq_iff_eq]; omega), obO_pos (by omega), obO_pos (by omega), if_neg (by rw [bne_iff_ne]; omega), obO_pos (by omega), obO_pos (by omega), obO_pos ⟨m3, m4⟩, obO_pos (by omega), obO_pos (by omega), obO_pos ⟨r3, r4⟩]
      have e1 : l.getD (((g_Sorted l).getD i []).getD 0 0).toNat [] = hkG l ((g_Sorted l).getD i []) := by rw [getD_headD]; rfl
      have e2 : l.reverse.getD (((g_Sorted l.reverse).getD i []).getD 0 0).toNat [] = hkG l.reverse ((g_Sorted l.reverse).getD i []) := by rw [getD_headD]; rfl
      have e0 : value_Orders (l.getD (((g_Sorted l).getD i []).getD 0 0).toNat []) (l.reverse.getD (((g_Sorted l.reverse).getD i []).getD 0 0).toNat []) = 0 := by
        unfold value_Orders
        rw [e1, e2, hk]
        exact ordR_zero.2 rfl
      rw [if_neg (by rw [e0]; simp)]
      by_cases hz : i = 0
      · subst hz
        rw [if_neg (by simp)]
      · obtain ⟨j, rfl⟩ : ∃ j, i = j + 1 := ⟨i - 1, by omega⟩
        obtain ⟨p1, p2, p3, p4⟩ := gS_mem l (i := j) (by omega)
        have ew : IntKind.i64.wrap (((j + 1 : Nat) : Int) - 1) = (j : Int) := by rw [wrap_id (by omega)]; omega
        rw [if_pos (by simp)]
        simp only [ew, Int.toNat_natCast]
        rw [obO_pos (by omega), obO_pos (by omega), obO_pos ⟨p3, p4⟩, obO_pos (by omega), obO_pos (by omega), obO_pos ⟨m3, m4⟩]
        have e3 : l.getD (((g_Sorted l).getD j []).getD 0 0).toNat [] = hkG l ((g_Sorted l).getD j []) := by rw [getD_headD]; rfl
        have hr := gS_rise l (i := j) (by omega)
        rw [if_neg (by
          unfold value_Orders
          rw [e3, e1, decide_eq_true_eq]
          omega)])
    (fun _ _ => by
      rw [l33_GrouperTurns_l13]
      simp [cndO_eq]) () trivial
  refine (loop_end L2).trans ?_
  rw [l33_GrouperTurns_a13_x2]
  simp only [cndO_eq]
  have hk2 : keysOK (l ++ l) := fun x hx => by rcases List.mem_append.1 hx with hx | hx <;> exact h1 x hx
  have c1 : r03_List (value_Sorted (g_Distinct l)) (value_Sorted (g_Distinct l.reverse)) = true := r03_List_self _ _ (by
    rw [dist_firsts, dist_firsts]
    exact vsorted_perm (firsts_perm fun x => List.mem_reverse.symm))
  have c2 : r03_List (g_Distinct (l ++ l)) (g_Distinct l) = true := r03_List_self _ _ (by rw [dist_firsts, dist_firsts, firsts_twice])
  have c3 : r03_List (g_Distinct (g_Distinct l)) (g_Distinct l) = true := r03_List_self _ _ (by rw [dist_firsts, dist_firsts, firsts_again])
  rw [if_pos (by rfl), obO_pos (dist_rows h2), obO_pos hor, obO_pos (dist_rows h2r), if_pos c1, obO_pos (by unfold roomB; omega), obO_pos (by unfold roomB; omega), obO_pos ⟨by rw [List.length_append]; omega, hk2⟩, if_pos c2, obO_pos ⟨by have := dist_len l; omega, dist_keys h1⟩, c3]
  rfl
def F_l33_GrouperTurns : FnC Un := fun args => match args with
  | [x0] => (dL .row x0).bind fun l => some ([l.length ≤ 60 → keysOK l ∧ rowsOK l], A_l33_GrouperTurns (l33_GrouperTurns l), O_l33_GrouperTurns (l33_GrouperTurns l))
  | _ => none
theorem ok_l33_GrouperTurns : FnOK 5 F_l33_GrouperTurns := by
  intro args ob rs os h hob
  unfold F_l33_GrouperTurns at h
  split at h
  · simp only [Option.bind_eq_some_iff, Option.some.injEq, Prod.mk.injEq] at h
    obtain ⟨l, e0, rfl, rfl, rfl⟩ := h
    obtain rfl := dL_eq e0
    exact ⟨fn_contractF (M := M_l33_GrouperTurns) rfl (tbl_ok (l1 := [(6, F_l33_awake), (13, F_grouper_Distinct), (10, F_grouper_Sorted), (15, F_value_Orders), (16, F_value_Sorted), (12, F_r03_List)]) (l2 := []) (l3 := []) (l4 := []) (l5 := []) ⟨ok_l33_awake, ok_grouper_Distinct, ok_grouper_Sorted, ok_value_Orders, ok_value_Sorted, ok_r03_List, trivial⟩ trivial trivial trivial trivial) Tryd.func5 (by kernel_rfl) N_l33_GrouperTurns 2 [.d] (fun hwf => (l33_GrouperTurns_spec l (wfArg hwf (a := .d (.v (.dat (U := Un) Ty.row l))) (List.mem_of_getElem? (i := 0) rfl)) (hob _ (List.mem_of_getElem? (i := 0) rfl)))), hasBody_of Tryd.func5 (by kernel_rfl) (by kernel_rfl)⟩
  · simp at h
end
end Go.Proofs.YtfdnnfbbjiglcaaDoor.B
