/- Part 18 of the proof: Ldist Slaw33a GrouperSaysCardProof. -/
import Derived.SizedLaws
import Derived.JoinedCond
import Derived.Deep.DeepHandedRow
import Derived.OpenShut
import Derived.Test.YtfdnnfbbjiglcaaDoorCards
import Derived.Test.YtfdnnfbbjiglcaaDoorTie
import Derived.Test.YtfdnnfbbjiglcaaDoorRows
import Derived.Test.YtfdnnfbbjiglcaaDoorGrp17
namespace Go.Proofs.YtfdnnfbbjiglcaaDoor.B
open Go Go.RowKit Go.Shelf Go.Maps
set_option maxRecDepth 1000000
set_option linter.unusedVariables false
noncomputable section
def heads (key : Int → List Val) (out : List (List Int)) : List (List Val) := out.map fun g => key (g.headD 0)
theorem clone_calls {St : Nat → Nat → Prop} {w : World} {v : Value} {r : List Val} (hbd : ∀ b o, St b o → b < w.heap.size) (h : VRel En St w v (.dat (U := Un) Ty.val r)) (hl : r.length ≤ 1000000000) (hld : Laid w) :
    Calls Tryd.prog 22 #[v] w fun e w' => ∃ v', e = .returned v' ∧ Ext w w' ∧ VRel En (fun b _ => w.heap.size ≤ b ∧ b < w'.heap.size) w' v' (.dat (U := Un) Ty.val r) := by
  have hc := (ok_clone_row [.d (.v (.dat (U := Un) Ty.val r))] [r.length ≤ 1000000000] [.c (.ob 0 0)] [⟨0, .val, r, some 0, true⟩] (by unfold F_clone_row F_clone; simp only [dL_mk]; rfl) (fun p hp => by rw [List.mem_singleton.1 hp]; exact hl)).1 w St [v] hbd ⟨h, trivial⟩ hld
  refine hc.mono ?_
  rintro e w' ⟨v', rfl, hR⟩
  exact ⟨v', rfl, ret_fresh hR⟩
def StR (St : Nat → Nat → Prop) (w wr : World) (base : Nat) (v : Value) (b o : Nat) : Prop := (b < w.heap.size ∧ St b o) ∨ (base ≤ b ∧ b < wr.heap.size ∧ v.ownBlock ≠ some b)
structure TieH (key : Int → List Val) (out : List (List Int)) (D : DataW Unit) : Prop where
  is : IsMap D
  has : ∀ x : List Val, x.length ≤ 1000000000 → (keyT x).length ≤ 1000000000000 → Maps.has D (klOf x) = decide (gAt key x out < out.length)
structure RD (St : Nat → Nat → Prop) (w : World) (keys : List (List Val)) (i : Nat) (v : Value) (cs : List Value) (D : DataW Unit) (wr : World) : Prop where
  ext : Ext w wr
  own : wr.ownsMap Tryd.prog 39 (plainElem Tryd.prog 3) (w.heap.size + 1) i D
  tie : TieH (keyAt keys) (gRun (keyAt keys) i) D
  last : ∃ lz lt, wr.heap[w.heap.size]? = some (.cells #[.int .i64 lz, .string lt] 39 (0, 0)) ∧ (lz = -1 ∨ ∃ y : List Val, y.length ≤ 1000000000 ∧ (keyT y).length ≤ 1000000000000 ∧ lz = y.length ∧ lt = ⟨(keyT y).toArray⟩ ∧ gAt (keyAt keys) y (gRun (keyAt keys) i) < (gRun (keyAt keys) i).length)
  row : wr.ownsRow (w.heap.size + 2) 33 1 v (gRun (keyAt keys) i).length cs
  rel : ∀ (j : Nat) r, (heads (keyAt keys) (gRun (keyAt keys) i))[j]? = some r → ∃ u, cs[j]? = some u ∧ VRel En (StR St w wr (w.heap.size + 2) v) wr u (.dat (U := Un) Ty.val r)
  hs : w.heap.size + 2 ≤ wr.heap.size
theorem heads_app {key : Int → List Val} {out : List (List Int)} {k : Nat} {i : Int} (hk : k < out.length) (hne : out.getD k [] ≠ []) : heads key (out.set k (out.getD k [] ++ [i])) = heads key out := by
  unfold heads
  apply List.ext_getElem?
  intro j
  rw [List.getElem?_map, List.getElem?_map, List.getElem?_set]
  by_cases e : k = j
  · subst e
    rw [if_pos rfl, if_pos hk, List.getElem?_eq_getElem hk]
    have : out.getD k [] = out[k] := by rw [List.getD_eq_getElem?_getD, List.getElem?_eq_getElem hk]; rfl
    rw [this] at hne ⊢
    cases hc : out[k] with
    | nil => exact (hne hc).elim
    | cons a r => rfl
  · rw [if_neg e]
theorem str_keeps {St : Nat → Nat → Prop} {w wr W : World} {base : Nat} {v : Value} (hw : Ext w wr) (hx : Ext wr W) : Keeps (StR St w wr base v) wr (StR St w W base v) W := fun b o hs => by
  rcases hs with ⟨h1, h2⟩ | ⟨h1, h2, h3⟩
  · exact ⟨.inl ⟨h1, h2⟩, hx.cell (p := ⟨b, o, none⟩) (Nat.lt_of_lt_of_le h1 hw.size)⟩
  · exact ⟨.inr ⟨h1, Nat.lt_of_lt_of_le h2 hx.size, h3⟩, hx.cell (p := ⟨b, o, none⟩) h2⟩
theorem RD.found {St : Nat → Nat → Prop} {w wr W : World} {keys : List (List Val)} {i : Nat} {v : Value} {cs : List Value} {D : DataW Unit} (h : RD St w keys i v cs D wr) (hx : Ext wr W) {x : List Val} (hka : keyAt keys (i : Int) = x) (hg : gAt (keyAt keys) x (gRun (keyAt keys) i) < (gRun (keyAt keys) i).length) : (gRun (keyAt keys) (i + 1)).length = (gRun (keyAt keys) i).length ∧ RD St w keys (i + 1) v cs D W := by
  have hGI := gRun_ok (keyAt keys) i
  generalize hout : gRun (keyAt keys) i = out at hg hGI
  have hs : gRun (keyAt keys) (i + 1) = out.set (gAt (keyAt keys) x out) (out.getD (gAt (keyAt keys) x out) [] ++ [(i : Int)]) := by
    rw [gRun_succ, hout]; unfold gStep gAdd; rw [hka, if_pos hg]
  have hne := hGI.ne _ hg
  have hl : (gRun (keyAt keys) (i + 1)).length = out.length := by rw [hs, List.length_set]
  have hgt : ∀ y, gAt (keyAt keys) y (gRun (keyAt keys) (i + 1)) = gAt (keyAt keys) y out := fun y => by rw [hs]; exact gAt_app hg hne
  have hh : heads (keyAt keys) (gRun (keyAt keys) (i + 1)) = heads (keyAt keys) out := by rw [hs]; exact heads_app hg hne
  refine ⟨hl, h.ext.trans hx, (h.own.kept (grown_of_ext hx) (by simp)).mono (Nat.le_succ _), ⟨h.tie.is, fun y y1 y2 => ?_⟩, ?_, ?_, fun j r hr => ?_, Nat.le_trans h.hs hx.size⟩
  · rw [hgt, hl, ← hout]; exact h.tie.has y y1 y2
  · obtain ⟨lz, lt, l1, l2⟩ := h.last
    refine ⟨lz, lt, by rw [hx.block (by have := h.hs; omega)]; exact l1, l2.imp id ?_⟩
    rintro ⟨y, y1, y2, y3, y4, y5⟩
    exact ⟨y, y1, y2, y3, y4, by rw [hgt, hl, ← hout]; exact y5⟩
  · rw [hl, ← hout]; exact h.row.kept (grown_of_ext hx) (by cases v.ownBlock <;> simp)
  · rw [hh, ← hout] at hr
    obtain ⟨u, u1, u2⟩ := h.rel j r hr
    exact ⟨u, u1, u2.mono (str_keeps h.ext hx)⟩
theorem key_set {W : World} {B : Nat} {u v u' v' : Value} {t : TypeId} (h : W.heap[B]? = some (.cells #[u, v] t (0, 0))) : ((W.setCell ⟨B, 0, none⟩ u').setCell ⟨B, 1, none⟩ v').heap[B]? = some (.cells #[u', v'] t (0, 0)) := by
  simp [World.setCell, Array.getElem?_modify, h]
theorem set_other {W : World} {B b : Nat} (o : Nat) (u : Value) (h : b ≠ B) : (W.setCell ⟨B, o, none⟩ u).heap[b]? = W.heap[b]? := by
  simp [World.setCell, Array.getElem?_modify, Ne.symm h]
theorem vrel_slice {St : Nat → Nat → Prop} {w : World} {v : Value} {τ : Ty} {xs : List (Den τ)} (h : VRel En St w v (.dat (U := Un) τ xs)) : ∃ a n c, v = .slice a n c := by
  rcases h.inv with ⟨_, a, c, rfl⟩ | ⟨b, o, c, cv, rfl, _⟩
  · exact ⟨_, _, _, rfl⟩
  · exact ⟨_, _, _, rfl⟩
theorem dist_w3 {St : Nat → Nat → Prop} {w wr W1 w3 : World} {keys : List (List Val)} {i : Nat} {v : Value} {cs : List Value} {D : DataW Unit} (h : RD St w keys i v cs D wr) (hx : Ext wr W1) {a b u1 u2 : Value} {o : Obj}
    (hg : (((W1.setCell ⟨w.heap.size, 0, none⟩ u1).setCell ⟨w.heap.size, 1, none⟩ u2).alloc o).grownBy w3 (some (w.heap.size + 1))) (hl : W1.heap[w.heap.size]? = some (.cells #[a, b] 39 (0, 0))) :
    Ext w w3 ∧ w3.ownsRow (w.heap.size + 2) 33 1 v (gRun (keyAt keys) i).length cs ∧ (∀ b, b < wr.heap.size → b ≠ w.heap.size → b ≠ w.heap.size + 1 → w3.heap[b]? = wr.heap[b]?) ∧ w3.heap[w.heap.size]? = some (.cells #[u1, u2] 39 (0, 0)) ∧ wr.heap.size ≤ w3.heap.size := by
  have hs := h.hs
  have hsz := hx.size
  have hrl := h.row.lt
  have hne : ∀ k, k < w.heap.size + 2 → v.ownBlock ≠ some k := fun k hk e => by have := (hrl k e).1; omega
  have hne' : ∀ k, k < w.heap.size + 2 → v.ownBlock = none ∨ v.ownBlock ≠ some k := fun k hk => .inr (hne k hk)
  have hgs : W1.heap.size ≤ w3.heap.size := by have := hg.size; simp at this; omega
  refine ⟨ext_grown ((((h.ext.trans hx).setCell (Nat.le_refl _) _).setCell (Nat.le_refl _) _).alloc _) hg (fun b hb => by cases hb; omega), ?_, fun b hb h1 h2 => ?_, ?_, by omega⟩
  · have r1 : W1.ownsRow (w.heap.size + 2) 33 1 v (gRun (keyAt keys) i).length cs := h.row.kept (grown_of_ext hx) (by cases v.ownBlock <;> simp)
    exact ((ownsRow_setCell_other (ownsRow_setCell_other r1 (hne w.heap.size (by omega)) _) (hne w.heap.size (by omega)) _).alloc o).kept hg (hne' (w.heap.size + 1) (by omega))
  · rw [hg.block b (by simp; omega) (fun e => h2 (Option.some.inj e)), heap_alloc_old _ _ (by simp; omega), set_other _ _ h1, set_other _ _ h1]
    exact hx.block hb
  · rw [hg.block _ (by simp; omega) (by simp), heap_alloc_old _ _ (by simp; omega)]
    exact key_set hl
theorem RD.fresh {St : Nat → Nat → Prop} {w wr w4 w5 : World} {keys : List (List Val)} {i g5 cap5 : Nat} {v u : Value} {cs : List Value} {D D' : DataW Unit} (h : RD St w keys i v cs D wr) {x : List Val} (hka : keyAt keys (i : Int) = x) (hx1 : x.length ≤ 1000000000) (hx2 : (keyT x).length ≤ 1000000000000) (hg : ¬ gAt (keyAt keys) x (gRun (keyAt keys) i) < (gRun (keyAt keys) i).length)
    (hx5 : Ext w w5) (hle : wr.heap.size ≤ w4.heap.size) (hle2 : w4.heap.size < w5.heap.size) (hkeep : ∀ b, b < wr.heap.size → b ≠ w.heap.size → b ≠ w.heap.size + 1 → v.ownBlock ≠ some b → w5.heap[b]? = wr.heap[b]?) (hown : w5.ownsMap Tryd.prog 39 (plainElem Tryd.prog 3) (w.heap.size + 1) (i + 1) (D.put (klOf x) D'))
    (hlast : w5.heap[w.heap.size]? = some (.cells #[.int .i64 x.length, .string ⟨(keyT x).toArray⟩] 39 (0, 0))) (hrow : w5.ownsRow (w.heap.size + 2) 33 1 (.slice (some ⟨g5, 0, none⟩) ((gRun (keyAt keys) i).length + 1) cap5) ((gRun (keyAt keys) i).length + 1) (cs ++ [u]))
    (hat : v.ownBlock = some g5 ∨ w4.heap.size ≤ g5) (hu : VRel En (fun b _ => wr.heap.size ≤ b ∧ b < w4.heap.size) w5 u (.dat (U := Un) Ty.val x)) :
    (gRun (keyAt keys) (i + 1)).length = (gRun (keyAt keys) i).length + 1 ∧ RD St w keys (i + 1) (.slice (some ⟨g5, 0, none⟩) ((gRun (keyAt keys) i).length + 1) cap5) (cs ++ [u]) (D.put (klOf x) D') w5 := by
  have hrl := h.row.lt
  have hcl : cs.length = (gRun (keyAt keys) i).length := by have := h.row.1; rw [Nat.mul_one] at this; exact this
  have hs : gRun (keyAt keys) (i + 1) = gRun (keyAt keys) i ++ [[(i : Int)]] := by
    rw [gRun_succ]; unfold gStep gAdd; rw [hka, if_neg hg]
  have hl : (gRun (keyAt keys) (i + 1)).length = (gRun (keyAt keys) i).length + 1 := by rw [hs]; simp
  have hle0 : ∀ y, gAt (keyAt keys) y (gRun (keyAt keys) i) ≤ (gRun (keyAt keys) i).length := fun y => List.findIdx_le_length
  have hh : heads (keyAt keys) (gRun (keyAt keys) (i + 1)) = heads (keyAt keys) (gRun (keyAt keys) i) ++ [x] := by
    rw [hs]; unfold heads; rw [List.map_append]; simp [hka]
  have hgx : gAt (keyAt keys) x (gRun (keyAt keys) (i + 1)) = (gRun (keyAt keys) i).length := by
    rw [hs, gAt_snoc, if_neg hg, if_pos hka]
  refine ⟨hl, hx5, hown, ⟨hown.isMap, fun y y1 y2 => ?_⟩, ⟨_, _, hlast, .inr ⟨x, hx1, hx2, rfl, rfl, by rw [hgx, hl]; omega⟩⟩, by rw [hl]; exact hrow, fun j r hr => ?_, by have := h.hs; omega⟩
  · rw [hs, gAt_snoc, List.length_append, List.length_singleton]
    by_cases e : y = x
    · subst e
      rw [has_put_same h.tie.is (klOf_is hx1 hx2), if_neg hg, if_pos hka, decide_eq_true (by omega)]
    · rw [has_put_other (fun e2 => e (klOf_inj y1 y2 hx1 hx2 e2)), h.tie.has y y1 y2]
      have hl := hle0 y
      by_cases h3 : gAt (keyAt keys) y (gRun (keyAt keys) i) < (gRun (keyAt keys) i).length
      · rw [if_pos h3, decide_eq_true h3, decide_eq_true (by omega)]
      · rw [if_neg h3, if_neg (fun e2 => e (e2.symm.trans hka)), decide_eq_false h3, decide_eq_false (by omega)]
  · rw [hh] at hr
    have hlen : (heads (keyAt keys) (gRun (keyAt keys) i)).length = cs.length := by unfold heads; rw [List.length_map, hcl]
    rcases Nat.lt_or_ge j cs.length with hj | hj
    · rw [List.getElem?_append_left (by omega)] at hr
      obtain ⟨z, z1, z2⟩ := h.rel j r hr
      refine ⟨z, by rw [List.getElem?_append_left hj]; exact z1, z2.mono fun b o hb => ?_⟩
      have hblt : b < wr.heap.size := by rcases hb with ⟨h1, _⟩ | ⟨_, h2, _⟩; exact Nat.lt_of_lt_of_le h1 h.ext.size; exact h2
      have hcell : w5.heap[b]? = wr.heap[b]? := by
        rcases hb with ⟨h1, _⟩ | ⟨h1, _, h3⟩
        · exact hkeep b hblt (by omega) (by omega) (fun e => by have := (hrl b e).1; omega)
        · exact hkeep b hblt (by omega) (by omega) h3
      refine ⟨?_, by simp [World.cell?, hcell]⟩
      rcases hb with ⟨h1, h2⟩ | ⟨h1, h2, h3⟩
      · exact .inl ⟨h1, h2⟩
      · refine .inr ⟨h1, by omega, fun e => ?_⟩
        have e2 : g5 = b := Option.some.inj e
        rcases hat with ha | ha
        · exact h3 (by rw [ha, e2])
        · omega
    · have hj2 : j = cs.length := by
        have := (List.getElem?_eq_some_iff.1 hr).1
        rw [List.length_append, List.length_singleton] at this; omega
      subst hj2
      rw [List.getElem?_append_right (by omega), hlen, Nat.sub_self] at hr
      have : r = x := (Option.some.inj hr).symm
      subst this
      refine ⟨u, by rw [List.getElem?_append_right (Nat.le_refl _), Nat.sub_self]; rfl, hu.mono fun b o hb => ⟨.inr ⟨by have := h.hs; omega, by omega, fun e => ?_⟩, rfl⟩⟩
      have e2 : g5 = b := Option.some.inj e
      rcases hat with ha | ha
      · have := (hrl g5 ha).2; omega
      · omega
set_option maxHeartbeats 8000000 in
theorem distinct_walk (St : Nat → Nat → Prop) (keys : List (List Val)) (a : Option Addr) (b off cap : Nat) (kv : Nat → Value) (w : World) (hbd : ∀ b o, St b o → b < w.heap.size) (hld : Laid w) (hlen : keys.length ≤ 2000000) (hok : keysOK keys) (ha : keys ≠ [] → a = some ⟨b, off, none⟩ ∧ keys.length ≤ cap)
    (hcell : ∀ i, i < keys.length → w.cell? ⟨b, off + i, none⟩ = some (kv i) ∧ VRel En St w (kv i) (.dat (U := Un) Ty.val (keys.getD i []))) :
    Calls Tryd.prog 13 #[.slice a keys.length cap] w fun e w' => ∃ v cs D, e = .returned v ∧ RD St w keys keys.length v cs D w' := by
  have mixed : Tryd.prog.follows .mixedOrders = true := by kernel_rfl
  have hmm := @run_makeMap Tryd.prog
  go_enter Tryd.func13, Tryd.ntmps13
  go_wp2
  go_loopw [3, 15] (fun s3 s15 wr => ∃ (i cp : Nat) (g : Option Addr) (cs : List Value) (D : DataW Unit), i ≤ keys.length ∧ s3 = .slice g (gRun (keyAt keys) i).length cp ∧ s15 = .int .i64 i ∧ RD St w keys i (.slice g (gRun (keyAt keys) i).length cp) cs D wr) (fun _ s15 _ => keys.length - (intOf s15).toNat)
  case atStart =>
    have e0 : gRun (keyAt keys) 0 = [] := rfl
    have h1 : ∀ (h : Array Obj) (o : Obj), (h.push o)[h.size]? = some o := fun h o => by simp
    have hsz : (w.alloc (Obj.cells #[Value.int IntKind.i64 (-1), Value.string { data := #[] }] 39)).heap.size = w.heap.size + 1 := by simp
    refine ⟨0, 0, none, [], .map [], Nat.zero_le _, rfl, rfl, ⟨((Ext.refl w).alloc _).alloc _, by rw [← hsz]; exact World.ownsMap_made _ _ _ _, ⟨⟨[], rfl⟩, fun x _ _ => rfl⟩, ⟨-1, ⟨#[]⟩, ?_, .inl rfl⟩, World.ownsRow_nil _ _ _ _, fun j r hr => by simp [e0, heads] at hr, by simp⟩⟩
    rw [heap_alloc_old _ _ (by simp)]; exact h1 w.heap _
  case round =>
    obtain ⟨i, cp, g, cs, D, hi, rfl, rfl, hr⟩ := hrel
    have hGI := gRun_ok (keyAt keys) i
    have hgl : (gRun (keyAt keys) i).length ≤ i := gRun_len (keyAt keys) i
    by_cases hlt : i < keys.length
    · obtain ⟨rfl, hcap⟩ := ha (fun e => by rw [e] at hlt; simp at hlt)
      obtain ⟨x, hxd⟩ : ∃ x, x = keys.getD i [] := ⟨_, rfl⟩
      have hxm : x ∈ keys := by rw [hxd, List.getD_eq_getElem?_getD, List.getElem?_eq_getElem hlt]; exact List.getElem_mem _
      obtain ⟨ok1, ok2⟩ := hok x hxm
      have hkx := hkey x ok1 ok2
      have hka : keyAt keys (i : Int) = x := by rw [hxd]; unfold keyAt; rw [Int.toNat_natCast]
      obtain ⟨hce, hvr⟩ := hcell i hlt
      rw [← hxd] at hvr
      have hc : ∀ W, Ext w W → Calls Tryd.prog 18 #[kv i] W fun e w' => e = .returned (keyV x) ∧ Ext W w' := fun W hx => keyOf_calls (hvr.mono (ext_keep hx hbd)) ok1 ok2 (hld.ext hx)
      have hcl : ∀ W, Ext w W → Calls Tryd.prog 22 #[kv i] W fun e w' => ∃ v', e = .returned v' ∧ Ext W w' ∧ VRel En (fun b _ => W.heap.size ≤ b ∧ b < w'.heap.size) w' v' (.dat (U := Un) Ty.val x) := fun W hx => clone_calls (fun b o hs => Nat.lt_of_lt_of_le (hbd b o hs) hx.size) (hvr.mono (ext_keep hx hbd)) ok1 (hld.ext hx)
      have d1 := hr.ext.keeps hce
      unfold keyV at hkx hc
      have k0 : (i : Int) < (keys.length : Int) := by omega
      have th := hr.tie.has x ok1 ok2
      obtain ⟨lz, lt, hl1, hl2⟩ := hr.last
      generalize hout : gRun (keyAt keys) i = out at th hl2 hGI hgl ⊢
      have HR := Lib.hid hr
      have HC := Lib.hid hc
      have HCL := Lib.hid hcl
      have HX := Lib.hid hkx
      have HA := Lib.hid hka
      have HV := Lib.hid hvr
      have HL1 := Lib.hid hl1
      have HL2 := Lib.hid hl2
      clear hr hc hkx hka hxd hxm hcl hvr hce hl1 hl2
      by_cases hg : gAt (keyAt keys) x out < out.length
      · have hhas : Maps.has D (klOf x) = true := th.trans (decide_eq_true hg)
        clear th
        go_wp2_with (first
          | (go_at_call 18; refine (HC.out _ HR.out.ext).mono ?_; rintro e W1 ⟨rfl, hx1⟩; have MO := Lib.hid (HR.out.own.kept (grown_of_ext hx1) (by simp)))
          | (at_lookup; refine wpList_lookup_own_ok_int _ rfl _ _ 37 rfl 39 3 .i64 klaw Tryd.underlying37 Tryd.underlying3 (zeroI _) (w.heap.size + 1) i D rfl (MO.out.alloc _) _ (klOf x) rfl HX.out ?_; intro c hat hwc))
        obtain ⟨q1, q2⟩ := HR.out.found (hx1.trans ((Ext.refl W1).alloc (Obj.cells #[Value.int .i64 (x.length : Int), Value.string ⟨(keyT x).toArray⟩] 39))) HA.out (by rw [hout]; exact hg)
        rw [hout] at q1 q2
        exact ⟨⟨i + 1, cp, g, cs, D, by omega, by rw [q1], by go_num, by rw [q1]; exact q2⟩, by simp [intOf]; omega⟩
      · have hhas : Maps.has D (klOf x) = false := th.trans (decide_eq_false hg)
        clear th
        have hkey2 : (lz = (x.length : Int) ∧ ¬ keyT x = lt.toList) ∨ ¬ ((x.length : Int) = lz) := by
          rcases HL2.out with e | ⟨y, y1, y2, y3, y4, y5⟩
          · right; omega
          · by_cases e1 : (x.length : Int) = lz
            · refine .inl ⟨e1.symm, fun e2 => hg ?_⟩
              have : x = y := keyT_inj (by rw [e2, y4]; simp)
              rw [this]; exact y5
            · exact .inr e1
        have HG0 := Lib.hid hg
        clear hg
        obtain ⟨bO, iO, zO, hbO, _, _, undO, ho0, ho1, ho2, ho3, ho4⟩ := slOf (t := 22) (e := 33) (τ := .row) (by kernel_rfl)
        rcases hkey2 with ⟨rfl, e2⟩ | e1
        all_goals
          go_wp2_with (first
            | (go_at_call 18; refine (HC.out _ HR.out.ext).mono ?_; rintro e W1 ⟨rfl, hx1⟩; have MO := Lib.hid (HR.out.own.kept (grown_of_ext hx1) (by simp)); have LW := Lib.hid ((hx1.block (show w.heap.size < wr.heap.size by have := HR.out.hs; omega)).trans HL1.out); obtain ⟨q0, q1, q2, q3⟩ := key_cells LW.out; have ne0 : w.heap.size < W1.heap.size := (by have := HR.out.hs; have := hx1.size; omega); have ne1 : ¬ (w.heap.size = W1.heap.size) := (by omega); have ne2 : ¬ (W1.heap.size = w.heap.size) := (by omega); have HX1 := Lib.hid hx1; clear hx1)
            | (at_lookup; refine wpList_lookup_own_ok_int _ rfl _ _ 37 rfl 39 3 .i64 klaw Tryd.underlying37 Tryd.underlying3 (zeroI _) (w.heap.size + 1) i D rfl (MO.out.alloc _) _ (klOf x) rfl HX.out ?_; intro c hat hwc)
            | (at_mapUpdate; refine wpList_mapUpdate_own _ rfl _ _ _ 37 rfl 39 3 klaw Tryd.underlying37 _ (w.heap.size + 1) i D rfl (((MO.out.setCell (show w.heap.size + 1 ≠ w.heap.size by omega) _).setCell (show w.heap.size + 1 ≠ w.heap.size by omega) _).alloc _) (by unfold maxLen; omega) _ _ (klOf x) rfl rfl HX.out (.lit (.int .i64 i)) [] (plainElem_int Tryd.underlying3 (WalkArith.wf_i64 (by omega))) ?_; intro w3 hown3 hgrow3; have M3 := Lib.hid hown3; have DW := Lib.hid (dist_w3 HR.out HX1.out hgrow3 LW.out); clear hown3 hgrow3)
            | (go_at_call 22; refine (HCL.out _ DW.out.1).mono ?_; rintro e w4 ⟨u, rfl, hx4, hu4⟩; obtain ⟨ua, un, uc, rfl⟩ := vrel_slice hu4; have HX4 := Lib.hid hx4; have HU4 := Lib.hid hu4; have r4 := DW.out.2.1.kept (grown_of_ext hx4) (by cases (Value.slice g (gRun (keyAt keys) i).length cp).ownBlock <;> simp); rw [hout] at r4; have R4 := Lib.hid r4; clear hx4 hu4 r4)
            | (at_builtin; refine wpList_append_lies _ rfl _ _ _ rfl (w.heap.size + 2) 33 iO zO 1 bO undO ho0 ho3 ho1 ho2 ho4 (by omega) _ _ _ rfl (R4.out.alloc _) ⟨w4.heap.size, 0, none⟩ 1 1 [.slice ua un uc] rfl rfl (cell_one_new _ _ _) (by simp [Value.oneCell']) (by omega) (by unfold maxLen; omega) (Nat.le_trans (Nat.mul_le_mul (show out.length + 1 ≤ 2000001 by omega) hbO) (by decide)) (by have h1 := HR.out.hs; have h2 := DW.out.2.2.2.2; have h3 := HX4.out.size; simp; omega) _ rfl ?_; intro g5 cap5 w5 hown5 hgrow5 hat5 hlt5; have HO5 := Lib.hid hown5; have HG5 := Lib.hid hgrow5; have HA5 := Lib.hid hat5; clear hown5 hgrow5 hat5))
          obtain ⟨X3, R3, K3, L3, S3⟩ := DW.out
          have hrl := HR.out.row.lt
          have hob : (Value.slice g (gRun (keyAt keys) i).length cp).ownBlock = (Value.slice g out.length cp).ownBlock := by rw [hout]
          rw [hob] at hrl
          have hsz4 := HX4.out.size
          have hsz5 : w4.heap.size + 1 ≤ w5.heap.size := by have := HG5.out.size; simpa using this
          have far : ∀ b, b < w4.heap.size → (Value.slice g out.length cp).ownBlock ≠ some b → w5.heap[b]? = w4.heap[b]? := fun b hb hn => by
            rw [HG5.out.block b (by simp; omega) (fun e => hn e.symm), heap_alloc_old _ _ hb]
          have hs2 := HR.out.hs
          have hnw : ∀ k, k < w.heap.size + 2 → (Value.slice g out.length cp).ownBlock ≠ some k := fun k hk e => by have := (hrl k e).1; omega
          have hq := HR.out.fresh (w4 := w4) (w5 := w5) (g5 := g5) (cap5 := cap5) (u := .slice ua un uc) (D' := .lit (.int .i64 i)) HA.out ok1 ok2 (by rw [hout]; exact HG0.out)
            (ext_grown ((X3.trans HX4.out).alloc _) HG5.out (fun b hb => by have := (R4.out.lt b hb).1; omega)) (by omega) (by omega)
            (fun b h1 h2 h3 h4 => by rw [hob] at h4; rw [far b (by omega) h4, HX4.out.block (by omega)]; exact K3 b h1 h2 h3)
            (((M3.out.kept (grown_of_ext HX4.out) (by simp)).alloc _).kept HG5.out (fun e => hnw (w.heap.size + 1) (by omega) e.symm))
            (by rw [far _ (by omega) (hnw _ (by omega)), HX4.out.block (by omega)]; exact L3)
            (by rw [hout]; exact HO5.out)
            (hob ▸ (show (Value.slice g out.length cp).ownBlock = some g5 ∨ g5 = (w4.alloc (Obj.cells #[Value.slice ua un uc] 33)).heap.size from HA5.out).imp id (fun e => by rw [e]; simp))
            (HU4.out.mono fun b o hb => ⟨⟨by omega, hb.2⟩, by simp only [World.cell?]; rw [far b hb.2 (fun e => by have := (hrl b e).2; omega)]⟩)
          rw [hout] at hq
          exact ⟨⟨i + 1, cap5, some ⟨g5, 0, none⟩, cs ++ [.slice ua un uc], D.put (klOf x) (.lit (.int .i64 i)), by omega, by rw [hq.1], by go_num, by rw [hq.1]; exact hq.2⟩, by simp [intOf]; omega⟩
    · go_wp2_with fail
      go_ret
      have : i = keys.length := by omega
      subst this
      exact ⟨_, cs, D, rfl, hr⟩
def g_Distinct (l : List (List Val)) : List (List Val) := (r33_Groups l).map fun g => keyAt l (g.headD 0)
def F_grouper_Distinct : FnC Un := fun args => match args with
  | [x0] => (dL .row x0).bind fun keys => some ([keys.length ≤ 2000000 ∧ keysOK keys], [.c (.sl (U := Un) Ty.row (g_Distinct keys) false)], [])
  | _ => none
theorem rows_vrel {St : Nat → Nat → Prop} {w : World} {base : Nat} {te : TypeId} {v : Value} {cs : List Value} {l : List (List Val)} (h : w.ownsRow base te 1 v l.length cs) (hs : ∀ b o, v.ownBlock = some b → St b o) (hl : l.length ≤ 9223372036854775807)
    (hr : ∀ (j : Nat) r, l[j]? = some r → ∃ u, cs[j]? = some u ∧ VRel En St w u (.dat (U := Un) Ty.val r)) : VRel En St w v (.dat (U := Un) Ty.row l) := by
  have h' := h
  obtain ⟨_, ⟨rfl, h0⟩ | ⟨g, cap, cur, rfl, _, _, hcap, _⟩⟩ := h
  · have : l = [] := List.eq_nil_of_length_eq_zero h0
    subst this
    exact .nil _ _ _
  · refine VRel.dat (U := Un) Ty.row (l : List (Un.Den Ty.row)) g 0 cap (fun i j => cs.getD i undef) ⟨hcap, hl⟩ (fun i j hi hj => ?_) (fun i hi j d hd => ?_)
    · have hj0 : j = 0 := by have : j < 1 := hj; omega
      subst hj0
      obtain ⟨u, u1, _⟩ := hr i _ (List.getElem?_eq_getElem hi)
      have e : 0 + i * Un.sz Ty.row + 0 = i := by show 0 + i * 1 + 0 = i; omega
      refine ⟨hs _ _ rfl, ?_⟩
      rw [e, h'.cellAt i (by rw [Nat.mul_one]; exact hi), List.getD_eq_getElem?_getD, u1]; rfl
    · have hd' : ([.dat (U := Un) Ty.val (l[i]'hi)] : List (V Un))[j]? = some d := hd
      cases j with
      | zero =>
        simp at hd'; subst hd'
        obtain ⟨u, u1, u2⟩ := hr i _ (List.getElem?_eq_getElem hi)
        show VRel En St w (cs.getD i undef) _
        rw [List.getD_eq_getElem?_getD, u1]; exact u2
      | succ j => simp at hd'
theorem ok_grouper_Distinct : FnOK 13 F_grouper_Distinct := by
  intro args ob rs os h hob
  unfold F_grouper_Distinct at h
  split at h
  · simp only [Option.bind_eq_some_iff, Option.some.injEq, Prod.mk.injEq] at h
    obtain ⟨keys, e0, rfl, rfl, rfl⟩ := h
    obtain rfl := dL_eq e0
    obtain ⟨hlen, hok⟩ := hob _ (List.mem_singleton.2 rfl)
    refine ⟨?_, hasBody_of Tryd.func13 (by kernel_rfl) (by kernel_rfl)⟩
    intro w St vs hbd hvs hld
    match vs, hvs with
    | [v0], ⟨h0, _⟩ =>
      obtain ⟨a, b, off, cap, kv, rfl, ha, hc⟩ := rows_cells h0
      refine (distinct_walk St keys a b off cap kv w hbd hld hlen hok ha (fun i hi => ⟨(hc i hi).2.1, (hc i hi).2.2⟩)).mono ?_
      rintro e w' ⟨v, cs, D, rfl, hR⟩
      have hg := gRun_len (keyAt keys) keys.length
      have hhl : (g_Distinct keys).length = (gRun (keyAt keys) keys.length).length := by unfold g_Distinct r33_Groups; rw [List.length_map]
      refine ⟨v, rfl, ret_dat hR.ext hbd (rows_vrel (base := w.heap.size + 2) (te := 33) (by rw [hhl]; exact hR.row) (fun b o e => .inr ⟨by have := (hR.row.lt b e).1; omega, (hR.row.lt b e).2, by simp [Value.ownBlock]⟩) (by omega) (fun j r hr => ?_))⟩
      obtain ⟨u, u1, u2⟩ := hR.rel j r hr
      exact ⟨u, u1, u2.mono fun b o hb => ⟨by
        rcases hb with ⟨h1, h2⟩ | ⟨h1, h2, _⟩
        · exact .inl ⟨h1, h2⟩
        · exact .inr ⟨by omega, h2, by simp [Value.ownBlock]⟩, rfl⟩⟩
  · simp at h
end
end Go.Proofs.YtfdnnfbbjiglcaaDoor.B
namespace Go.Proofs.YtfdnnfbbjiglcaaDoor.B
open Go Go.RowKit
set_option maxRecDepth 100000
noncomputable section
attribute [local irreducible] awp ctxK itersK iterK retQ retGQ awf ctxF loopF
def M_l33_awake : Mc Un := mach (tbl [(17, F_value_Num), (8, F_grouper_Groups), (7, F_r33_Lists), (10, F_grouper_Sorted), (13, F_grouper_Distinct)]) (tbl []) (tbl []) (tbl []) (tbl [])
def A_l33_awake (r : Bool) : List (A Un) := [.c (.s (.bool r))]
def O_l33_awake (_r : Bool) : List (Ob Un) := []
def R_l33_awake (r : Bool) : RF Un := (A_l33_awake r, O_l33_awake r)
def N_l33_awake : Nat → NS := fun l => (look l []).getD ⟨[], [], [], [], [], true⟩
def l33_awake_fn : Option (RF Un) := awf M_l33_awake N_l33_awake (bodyOf Tryd.f6) (entry Tryd.f6.ntmps 0 []) (retF M_l33_awake Tryd.f6.results.toList [.d])
theorem l33_awake_in : l33_awake_fn =
 obO ([[(value_Num (5 : Int))], [zeroVal], [(value_Num (5 : Int))], [zeroVal], [(value_Num (1 : Int))]].length ≤ (2000000 : Nat) ∧ keysOK [[(value_Num (5 : Int))], [zeroVal], [(value_Num (5 : Int))], [zeroVal], [(value_Num (1 : Int))]])
  (cndO (r33_Lists (r33_Groups [[(value_Num (5 : Int))], [zeroVal], [(value_Num (5 : Int))], [zeroVal], [(value_Num (1 : Int))]]) [[(0 : Int), (2 : Int)], [(1 : Int), (3 : Int)], [(4 : Int)]])
   (obO ([[(value_Num (5 : Int))], [zeroVal], [(value_Num (5 : Int))], [zeroVal], [(value_Num (1 : Int))]].length ≤ (2000000 : Nat) ∧ keysOK [[(value_Num (5 : Int))], [zeroVal], [(value_Num (5 : Int))], [zeroVal], [(value_Num (1 : Int))]])
    (cndO (r33_Lists (g_Sorted [[(value_Num (5 : Int))], [zeroVal], [(value_Num (5 : Int))], [zeroVal], [(value_Num (1 : Int))]]) [[(1 : Int), (3 : Int)], [(4 : Int)], [(0 : Int), (2 : Int)]])
     (obO ([[(value_Num (5 : Int))], [zeroVal], [(value_Num (5 : Int))], [zeroVal], [(value_Num (1 : Int))]].length ≤ (2000000 : Nat) ∧ keysOK [[(value_Num (5 : Int))], [zeroVal], [(value_Num (5 : Int))], [zeroVal], [(value_Num (1 : Int))]])
      (some (R_l33_awake ((↑(g_Distinct [[(value_Num (5 : Int))], [zeroVal], [(value_Num (5 : Int))], [zeroVal], [(value_Num (1 : Int))]]).length : Int) == (3 : Int)))))
     (some (R_l33_awake (false)))))
   (some (R_l33_awake (false)))) := by kernel_rfl
def l33_awake : Bool := true
theorem l33_awake_spec : l33_awake_fn = some (R_l33_awake l33_awake) := by
  rw [l33_awake_in]
  have e : [[(value_Num (5 : Int))], [zeroVal], [(value_Num (5 : Int))], [zeroVal], [(value_Num (1 : Int))]] = exK := rfl
  have ho : exK.length ≤ 2000000 ∧ keysOK exK := ⟨by decide, exK_ok⟩
  have hd : (g_Distinct exK).length = 3 := by unfold g_Distinct; rw [exGroups]; rfl
  rw [e, obO_pos ho, obO_pos ho, obO_pos ho]
  simp only [cndO_eq]
  rw [exGroups, g_Sorted_eq, exSorted, hd, if_pos (by simp [r33_Lists]), if_pos (by simp [r33_Lists])]
  rfl
def F_l33_awake : FnC Un := fun args => match args with
  | [] => some ([], A_l33_awake (l33_awake), O_l33_awake (l33_awake))
  | _ => none
theorem ok_l33_awake : FnOK 6 F_l33_awake := by
  intro args ob rs os h hob
  unfold F_l33_awake at h
  split at h
  · simp only [Option.bind_eq_some_iff, Option.some.injEq, Prod.mk.injEq] at h
    obtain ⟨rfl, rfl, rfl⟩ := h
    exact ⟨fn_contractF (M := M_l33_awake) rfl (tbl_ok (l1 := [(17, F_value_Num), (8, F_grouper_Groups), (7, F_r33_Lists), (10, F_grouper_Sorted), (13, F_grouper_Distinct)]) (l2 := []) (l3 := []) (l4 := []) (l5 := []) ⟨ok_value_Num, ok_grouper_Groups, ok_r33_Lists, ok_grouper_Sorted, ok_grouper_Distinct, trivial⟩ trivial trivial trivial trivial) Tryd.func6 (by kernel_rfl) N_l33_awake 0 [.d] (fun hwf => (l33_awake_spec)), hasBody_of Tryd.func6 (by kernel_rfl) (by kernel_rfl)⟩
  · simp at h
def M_l33_GrouperSays : Mc Un := mach (tbl [(6, F_l33_awake), (8, F_grouper_Groups), (9, F_r33_Groups), (7, F_r33_Lists), (10, F_grouper_Sorted), (11, F_r33_Sorted), (13, F_grouper_Distinct), (14, F_r33_Distinct), (12, F_r03_List)]) (tbl []) (tbl []) (tbl []) (tbl [])
def A_l33_GrouperSays (r : Bool) : List (A Un) := [.c (.s (.bool r))]
def O_l33_GrouperSays (_r : Bool) : List (Ob Un) := []
def R_l33_GrouperSays (r : Bool) : RF Un := (A_l33_GrouperSays r, O_l33_GrouperSays r)
def N_l33_GrouperSays : Nat → NS := fun l => (look l []).getD ⟨[], [], [], [], [], true⟩
def l33_GrouperSays_fn (l : List (List Val)) : Option (RF Un) := awf M_l33_GrouperSays N_l33_GrouperSays (bodyOf Tryd.f3) (entry Tryd.f3.ntmps 0 [.d (.v (.dat (U := Un) Ty.row l))]) (retF M_l33_GrouperSays Tryd.f3.results.toList [.d])
theorem l33_GrouperSays_in (l : List (List Val)) : l33_GrouperSays_fn l =
 cndO (decide ((↑l.length : Int) > (100 : Int)))
  (some (R_l33_GrouperSays (l33_awake)))
  (cndO (l33_awake)
   (obO (l.length ≤ (2000000 : Nat) ∧ keysOK l)
    (obO (l.length ≤ (2000000 : Nat))
     (cndO (r33_Lists (r33_Groups l) (r33_Groups l))
      (obO (l.length ≤ (2000000 : Nat) ∧ keysOK l)
       (obO (l.length ≤ (2000000 : Nat))
        (cndO (r33_Lists (g_Sorted l) (r33_Sorted l))
         (obO (l.length ≤ (2000000 : Nat) ∧ keysOK l)
          (obO (rowsOK l)
           (some (R_l33_GrouperSays (r03_List (g_Distinct l) (r33_Distinct l))))))
         (some (R_l33_GrouperSays (false))))))
      (some (R_l33_GrouperSays (false))))))
   (some (R_l33_GrouperSays (false)))) := by kernel_rfl
def l33_GrouperSays (_l : List (List Val)) : Bool := true
theorem l33_GrouperSays_spec (l : List (List Val)) (_hl : WL .row l) (h : l.length ≤ 100 → keysOK l ∧ rowsOK l) : l33_GrouperSays_fn l = some (R_l33_GrouperSays (l33_GrouperSays l)) := by
  rw [l33_GrouperSays_in]
  simp only [cndO_eq]
  by_cases hn : (l.length : Int) > 100
  · rw [if_pos (by simpa using hn)]; rfl
  · obtain ⟨h1, h2⟩ := h (by omega)
    have ho : l.length ≤ 2000000 ∧ keysOK l := ⟨by omega, h1⟩
    rw [if_neg (by simpa using hn), if_pos (by rfl), obO_pos ho, obO_pos ho.1, if_pos (by simp [r33_Lists]), obO_pos ho, obO_pos ho.1, g_Sorted_eq, if_pos (by simp [r33_Lists]), obO_pos ho, obO_pos h2]
    have e : r03_List (g_Distinct l) (r33_Distinct l) = true := by unfold r03_List; rw [deq_iff]; rfl
    rw [e]; rfl
def F_l33_GrouperSays : FnC Un := fun args => match args with
  | [x0] => (dL .row x0).bind fun l => some ([l.length ≤ 100 → keysOK l ∧ rowsOK l], A_l33_GrouperSays (l33_GrouperSays l), O_l33_GrouperSays (l33_GrouperSays l))
  | _ => none
theorem ok_l33_GrouperSays : FnOK 3 F_l33_GrouperSays := by
  intro args ob rs os h hob
  unfold F_l33_GrouperSays at h
  split at h
  · simp only [Option.bind_eq_some_iff, Option.some.injEq, Prod.mk.injEq] at h
    obtain ⟨l, e0, rfl, rfl, rfl⟩ := h
    obtain rfl := dL_eq e0
    exact ⟨fn_contractF (M := M_l33_GrouperSays) rfl (tbl_ok (l1 := [(6, F_l33_awake), (8, F_grouper_Groups), (9, F_r33_Groups), (7, F_r33_Lists), (10, F_grouper_Sorted), (11, F_r33_Sorted), (13, F_grouper_Distinct), (14, F_r33_Distinct), (12, F_r03_List)]) (l2 := []) (l3 := []) (l4 := []) (l5 := []) ⟨ok_l33_awake, ok_grouper_Groups, ok_r33_Groups, ok_r33_Lists, ok_grouper_Sorted, ok_r33_Sorted, ok_grouper_Distinct, ok_r33_Distinct, ok_r03_List, trivial⟩ trivial trivial trivial trivial) Tryd.func3 (by kernel_rfl) N_l33_GrouperSays 0 [.d] (fun hwf => (l33_GrouperSays_spec l (wfArg hwf (a := .d (.v (.dat (U := Un) Ty.row l))) (List.mem_of_getElem? (i := 0) rfl)) (hob _ (List.mem_of_getElem? (i := 0) rfl)))), hasBody_of Tryd.func3 (by kernel_rfl) (by kernel_rfl)⟩
  · simp at h
def M_l33_GrouperWhole : Mc Un := mach (tbl [(6, F_l33_awake), (8, F_grouper_Groups), (15, F_value_Orders)]) (tbl []) (tbl []) (tbl []) (tbl [])
def A_l33_GrouperWhole (r : Bool) : List (A Un) := [.c (.s (.bool r))]
def O_l33_GrouperWhole (_r : Bool) : List (Ob Un) := []
def R_l33_GrouperWhole (r : Bool) : RF Un := (A_l33_GrouperWhole r, O_l33_GrouperWhole r)
def N_l33_GrouperWhole : Nat → NS := fun l => (look l [(6, { ts := bl 107 61, bs := bl 107 0, nm := [(.sl 3, 428), (.sl 4, 429)], cs := true }), (11, { ts := bl 107 125, bs := bl 107 0, nm := [(.sl 3, 430), (.sl 4, 431)], cs := true }), (18, { ts := bl 107 277, bs := bl 107 0, nm := [(.sl 4, 432)], cs := true }), (21, { ts := bl 107 789, bs := bl 107 0, nm := [(.sl 4, 433)], cs := true })]).getD ⟨[], [], [], [], [], true⟩
def l33_GrouperWhole_s6 (l : List (List Val)) (v0 : Int) (v1 : List Int) : S Un := (st 107 107 434 0 [(0, al .row l), (2, ab false), (3, ao 428), (4, ao 429), (5, ai v0)] [] [(428, some ⟨(0 : Nat), Ty.ints, r33_Groups l, some (0 : Nat), true⟩), (429, some ⟨(0 : Nat), Ty.int, v1, some (0 : Nat), true⟩)])
def l33_GrouperWhole_s11 (l : List (List Val)) (v0 : Int) (v1 : List Int) (v2 : Int) : S Un := (st 107 107 434 0 [(0, al .row l), (2, ab false), (3, ao 430), (4, ao 431), (5, ai v0), (6, ai v2)] [] [(430, some ⟨(0 : Nat), Ty.ints, r33_Groups l, some (0 : Nat), true⟩), (431, some ⟨(0 : Nat), Ty.int, v1, some (0 : Nat), true⟩)])
def l33_GrouperWhole_s18 (l : List (List Val)) (v1 : List Int) (v3 : Int) : S Un := (st 107 107 434 0 [(0, al .row l), (2, ab false), (4, ao 432), (8, ai v3)] [] [(432, some ⟨(0 : Nat), Ty.int, v1, some (0 : Nat), true⟩)])
def l33_GrouperWhole_s21 (l : List (List Val)) (v3 : Int) (v1 : List Int) (v4 : Int) : S Un := (st 107 107 434 0 [(0, al .row l), (2, ab false), (4, ao 433), (8, ai v3), (9, ai v4)] [] [(433, some ⟨(0 : Nat), Ty.int, v1, some (0 : Nat), true⟩)])
noncomputable def l33_GrouperWhole_B6 : Code := sub (bodyOf Tryd.f4) [1, 1, 1, 1, 0, 1, 2, 2]
def l33_GrouperWhole_L6 : S Un → Option (EX Un) := loopF (N_l33_GrouperWhole 6) (fun s Q => awf M_l33_GrouperWhole N_l33_GrouperWhole l33_GrouperWhole_B6 s Q)
noncomputable def l33_GrouperWhole_B11 : Code := sub (sub (bodyOf Tryd.f4) [1, 1, 1, 1, 0, 1, 2, 2]) [1, 0, 2, 1, 1, 2, 2]
def l33_GrouperWhole_L11 : S Un → Option (EX Un) := loopF (N_l33_GrouperWhole 11) (fun s Q => awf M_l33_GrouperWhole N_l33_GrouperWhole l33_GrouperWhole_B11 s Q)
noncomputable def l33_GrouperWhole_B18 : Code := sub (bodyOf Tryd.f4) [1, 1, 1, 1, 1, 0, 1, 2, 2]
def l33_GrouperWhole_L18 : S Un → Option (EX Un) := loopF (N_l33_GrouperWhole 18) (fun s Q => awf M_l33_GrouperWhole N_l33_GrouperWhole l33_GrouperWhole_B18 s Q)
noncomputable def l33_GrouperWhole_B21 : Code := sub (sub (bodyOf Tryd.f4) [1, 1, 1, 1, 1, 0, 1, 2, 2]) [1, 0, 2, 1, 2, 2]
def l33_GrouperWhole_L21 : S Un → Option (EX Un) := loopF (N_l33_GrouperWhole 21) (fun s Q => awf M_l33_GrouperWhole N_l33_GrouperWhole l33_GrouperWhole_B21 s Q)
def l33_GrouperWhole_C6 : Exit → S Un → Option (RF Un) := ctxF M_l33_GrouperWhole N_l33_GrouperWhole (bodyOf Tryd.f4) [1, 1, 1, 1, 0, 1, 2] (retF M_l33_GrouperWhole Tryd.f4.results.toList [.d])
def l33_GrouperWhole_C11 : Exit → S Un → Option (EX Un) := ctxF M_l33_GrouperWhole N_l33_GrouperWhole l33_GrouperWhole_B6 [1, 0, 2, 1, 1, 2] (roundF (N_l33_GrouperWhole 6) l33_GrouperWhole_L6)
def l33_GrouperWhole_C18 : Exit → S Un → Option (RF Un) := ctxF M_l33_GrouperWhole N_l33_GrouperWhole (bodyOf Tryd.f4) [1, 1, 1, 1, 1, 0, 1, 2] (retF M_l33_GrouperWhole Tryd.f4.results.toList [.d])
def l33_GrouperWhole_C21 : Exit → S Un → Option (EX Un) := ctxF M_l33_GrouperWhole N_l33_GrouperWhole l33_GrouperWhole_B18 [1, 0, 2, 1, 2] (roundF (N_l33_GrouperWhole 18) l33_GrouperWhole_L18)
def l33_GrouperWhole_fn (l : List (List Val)) : Option (RF Un) := awf M_l33_GrouperWhole N_l33_GrouperWhole (bodyOf Tryd.f4) (entry Tryd.f4.ntmps 6 [.d (.v (.dat (U := Un) Ty.row l))]) (retF M_l33_GrouperWhole Tryd.f4.results.toList [.d])
theorem l33_GrouperWhole_in (l : List (List Val)) : l33_GrouperWhole_fn l =
 cndO (decide ((↑l.length : Int) > (100 : Int)))
  (some (R_l33_GrouperWhole (l33_awake)))
  (obO (l.length ≤ (2000000 : Nat) ∧ keysOK l)
   (obO ((0 : Int) ≤ (↑l.length : Int) ∧ (↑l.length : Int) ≤ (↑l.length : Int) ∧ (↑l.length : Int).toNat * (8 : Nat) ≤ roomB)
    ((l33_GrouperWhole_L6 (l33_GrouperWhole_s6 l (0 : Int) (List.replicate (↑l.length : Int).toNat (0 : Int)))).bind (thenX l33_GrouperWhole_C6)))) := by kernel_rfl
theorem l33_GrouperWhole_l6 (l : List (List Val)) (v0 : Int) (v1 : List Int) : l33_GrouperWhole_L6 (l33_GrouperWhole_s6 l v0 v1) =
 cndO (decide (v0 < (↑(r33_Groups l).length : Int)))
  (obO (0 ≤ v0 ∧ v0 < (↑(r33_Groups l).length : Int))
   (cndO ((↑(List.length ((r33_Groups l).getD v0.toNat [])) : Int) == (0 : Int))
    (some (.ret, (l33_GrouperWhole_s6 l v0 v1)))
    ((l33_GrouperWhole_L11 (l33_GrouperWhole_s11 l v0 v1 (0 : Int))).bind (thenX l33_GrouperWhole_C11))))
  (some (.exit 0, (l33_GrouperWhole_s6 l v0 v1))) := (loopF_eq (N_l33_GrouperWhole 6) l33_GrouperWhole_B6 _).trans (by kernel_rfl)
theorem l33_GrouperWhole_a6_x0 (l : List (List Val)) (v0 : Int) (v1 : List Int) : l33_GrouperWhole_C6 (.exit 0) (l33_GrouperWhole_s6 l v0 v1) =
 (l33_GrouperWhole_L18 (l33_GrouperWhole_s18 l v1 (0 : Int))).bind (thenX l33_GrouperWhole_C18) := by kernel_rfl
theorem l33_GrouperWhole_l11 (l : List (List Val)) (v0 : Int) (v1 : List Int) (v2 : Int) : l33_GrouperWhole_L11 (l33_GrouperWhole_s11 l v0 v1 v2) =
 obO (0 ≤ v0 ∧ v0 < (↑(r33_Groups l).length : Int))
  (cndO (decide (v2 < (↑(List.length ((r33_Groups l).getD v0.toNat [])) : Int)))
   (obO (0 ≤ v0 ∧ v0 < (↑(r33_Groups l).length : Int))
    (obO (0 ≤ v2 ∧ v2 < (↑(List.length ((r33_Groups l).getD v0.toNat [])) : Int))
     (cndO (decide (List.getD ((r33_Groups l).getD v0.toNat []) v2.toNat (0 : Int) < (0 : Int)))
      (some (.ret, (l33_GrouperWhole_s11 l v0 v1 v2)))
      (cndO (decide (List.getD ((r33_Groups l).getD v0.toNat []) v2.toNat (0 : Int) ≥ (↑l.length : Int)))
       (some (.ret, (l33_GrouperWhole_s11 l v0 v1 v2)))
       (obO (0 ≤ List.getD ((r33_Groups l).getD v0.toNat []) v2.toNat (0 : Int) ∧ List.getD ((r33_Groups l).getD v0.toNat []) v2.toNat (0 : Int) < (↑v1.length : Int))
        (cndO (v1.getD (Int.toNat (List.getD ((r33_Groups l).getD v0.toNat []) v2.toNat (0 : Int))) (0 : Int) != (0 : Int))
         (some (.ret, (l33_GrouperWhole_s11 l v0 v1 v2)))
         (obO (0 ≤ List.getD ((r33_Groups l).getD v0.toNat []) v2.toNat (0 : Int) ∧ List.getD ((r33_Groups l).getD v0.toNat []) v2.toNat (0 : Int) < (↑v1.length : Int))
          (obO ((0 : Nat) ≤ Int.toNat (List.getD ((r33_Groups l).getD v0.toNat []) v2.toNat (0 : Int)))
           (l33_GrouperWhole_L11 (l33_GrouperWhole_s11 l v0 (v1.set (Int.toNat (List.getD ((r33_Groups l).getD v0.toNat []) v2.toNat (0 : Int))) (IntKind.i64.wrap (v0 + 1))) (IntKind.i64.wrap (v2 + 1))))))))))))
   (some (.exit 2, (l33_GrouperWhole_s11 l v0 v1 v2)))) := (loopF_eq (N_l33_GrouperWhole 11) l33_GrouperWhole_B11 _).trans (by kernel_rfl)
theorem l33_GrouperWhole_a11_x2 (l : List (List Val)) (v0 : Int) (v1 : List Int) (v2 : Int) : l33_GrouperWhole_C11 (.exit 2) (l33_GrouperWhole_s11 l v0 v1 v2) =
 l33_GrouperWhole_L6 (l33_GrouperWhole_s6 l (IntKind.i64.wrap (v0 + 1)) v1) := by kernel_rfl
theorem l33_GrouperWhole_l18 (l : List (List Val)) (v1 : List Int) (v3 : Int) : l33_GrouperWhole_L18 (l33_GrouperWhole_s18 l v1 v3) =
 cndO (decide (v3 < (↑l.length : Int)))
  ((l33_GrouperWhole_L21 (l33_GrouperWhole_s21 l v3 v1 (0 : Int))).bind (thenX l33_GrouperWhole_C21))
  (some (.exit 4, (l33_GrouperWhole_s18 l v1 v3))) := (loopF_eq (N_l33_GrouperWhole 18) l33_GrouperWhole_B18 _).trans (by kernel_rfl)
theorem l33_GrouperWhole_a18_x4 (l : List (List Val)) (v1 : List Int) (v3 : Int) : l33_GrouperWhole_C18 (.exit 4) (l33_GrouperWhole_s18 l v1 v3) =
 some (R_l33_GrouperWhole (l33_awake)) := by kernel_rfl
theorem l33_GrouperWhole_l21 (l : List (List Val)) (v3 : Int) (v1 : List Int) (v4 : Int) : l33_GrouperWhole_L21 (l33_GrouperWhole_s21 l v3 v1 v4) =
 cndO (decide (v4 < (↑l.length : Int)))
  (obO (0 ≤ v3 ∧ v3 < (↑v1.length : Int))
   (cndO (v1.getD v3.toNat (0 : Int) == (0 : Int))
    (some (.ret, (l33_GrouperWhole_s21 l v3 v1 v4)))
    (obO (0 ≤ v3 ∧ v3 < (↑v1.length : Int))
     (obO (0 ≤ v4 ∧ v4 < (↑v1.length : Int))
      (obO (0 ≤ v3 ∧ v3 < (↑l.length : Int))
       (obO (0 ≤ v4 ∧ v4 < (↑l.length : Int))
        (cndO (!(v1.getD v3.toNat (0 : Int) == v1.getD v4.toNat (0 : Int)) == (value_Orders (l.getD v3.toNat []) (l.getD v4.toNat []) == 0))
         (some (.ret, (l33_GrouperWhole_s21 l v3 v1 v4)))
         (l33_GrouperWhole_L21 (l33_GrouperWhole_s21 l v3 v1 (IntKind.i64.wrap (v4 + 1)))))))))))
  (some (.exit 6, (l33_GrouperWhole_s21 l v3 v1 v4))) := (loopF_eq (N_l33_GrouperWhole 21) l33_GrouperWhole_B21 _).trans (by kernel_rfl)
theorem l33_GrouperWhole_a21_x6 (l : List (List Val)) (v3 : Int) (v1 : List Int) (v4 : Int) : l33_GrouperWhole_C21 (.exit 6) (l33_GrouperWhole_s21 l v3 v1 v4) =
 l33_GrouperWhole_L18 (l33_GrouperWhole_s18 l v1 (IntKind.i64.wrap (v3 + 1))) := by kernel_rfl
theorem loop_inv {σ : Type} {L : S Un → Option (EX Un)} {st : σ → Int → S Un} {n : Nat} (hn : n ≤ 9223372036854775807) (Inv : Nat → σ → Prop) {e : Exit}
    (step : ∀ (a : σ) (i : Nat), i < n → Inv i a → ∃ b, Inv (i + 1) b ∧ L (st a (i : Int)) = L (st b (IntKind.i64.wrap ((i : Int) + 1)))) (stop : ∀ a, Inv n a → L (st a (n : Int)) = some (e, st a (n : Int))) (a : σ) (h0 : Inv 0 a) :
    ∃ b, Inv n b ∧ L (st a (0 : Int)) = some (e, st b (n : Int)) := by
  have key : ∀ (k i : Nat) (a : σ), i + k = n → Inv i a → ∃ b, Inv n b ∧ L (st a (i : Int)) = some (e, st b (n : Int)) := by
    intro k
    induction k with
    | zero =>
      intro i a hi hI
      obtain rfl : i = n := by omega
      exact ⟨a, hI, stop a hI⟩
    | succ k ih =>
      intro i a hi hI
      obtain ⟨b, hb, hL⟩ := step a i (by omega) hI
      rw [wrap_id (by omega)] at hL
      obtain ⟨c, hc, hC⟩ := ih (i + 1) b (by omega) hb
      exact ⟨c, hc, hL.trans hC⟩
  exact key n 0 a (by omega) h0
def ofInv (G : List (List Int)) (n i k : Nat) (o : List Int) : Prop := o.length = n ∧ ∀ p : Nat, p < n →
  (∃ j, j < i ∧ (p : Int) ∈ G.getD j [] ∧ o.getD p 0 = (j : Int) + 1) ∨ ((p : Int) ∈ (G.getD i []).take k ∧ o.getD p 0 = (i : Int) + 1) ∨ (o.getD p 0 = 0 ∧ (∀ j, j < i → (p : Int) ∉ G.getD j []) ∧ (p : Int) ∉ (G.getD i []).take k)
def l33_GrouperWhole (_l : List (List Val)) : Bool := true
theorem l33_GrouperWhole_spec (l : List (List Val)) (_hl : WL .row l) (h : l.length ≤ 100 → keysOK l) : l33_GrouperWhole_fn l = some (R_l33_GrouperWhole (l33_GrouperWhole l)) := by
  rw [l33_GrouperWhole_in]
  simp only [cndO_eq]
  by_cases hn : (l.length : Int) > 100
  · rw [if_pos (by simpa using hn)]; rfl
  have h1 := h (by omega)
  have ho : l.length ≤ 2000000 ∧ keysOK l := ⟨by omega, h1⟩
  rw [if_neg (by simpa using hn), obO_pos ho, obO_pos (by unfold roomB; omega)]
  obtain ⟨G, hG⟩ : ∃ G, G = r33_Groups l := ⟨_, rfl⟩
  have hI : GI (keyAt l) l.length G := by rw [hG]; exact gRun_ok _ _
  have hgl : G.length ≤ l.length := by rw [hG]; exact gRun_len _ _
  have hlen : ∀ k, (G.getD k []).length ≤ l.length := fun k => GI.len _ hI k
  obtain ⟨o1, i1, L1⟩ := loop_inv (L := l33_GrouperWhole_L6) (st := fun (o : List Int) i => l33_GrouperWhole_s6 l i o) (n := G.length) (by omega) (fun i o => ofInv G l.length i 0 o) (e := .exit 0)
    (fun o i hi hI6 => by
      have hne := hI.ne i hi
      have hl0 : 0 < (G.getD i []).length := List.length_pos_iff.2 hne
      obtain ⟨o2, i2, L2⟩ := loop_inv (L := l33_GrouperWhole_L11) (st := fun (o : List Int) k => l33_GrouperWhole_s11 l (i : Int) o k) (n := (G.getD i []).length) (by have := hlen i; omega) (fun k o => ofInv G l.length i k o) (e := .exit 2)
        (fun o k hk hI11 => by
          obtain ⟨hol, hop⟩ := hI11
          have hp0 : (G.getD i [])[k] ∈ G.getD i [] := List.getElem_mem hk
          obtain ⟨m1, m2, m3⟩ := hI.mem i _ hp0
          have hgp : (G.getD i []).getD k 0 = (G.getD i [])[k] := by rw [List.getD_eq_getElem?_getD, List.getElem?_eq_getElem hk]; rfl
          obtain ⟨p, hp⟩ : ∃ p : Nat, (G.getD i [])[k] = (p : Int) := ⟨((G.getD i [])[k]).toNat, by omega⟩
          rw [hp] at hp0 m1 m2 m3 hgp
          have htk : (G.getD i []).take (k + 1) = (G.getD i []).take k ++ [(p : Int)] := by rw [List.take_add_one, List.getElem?_eq_getElem hk, hp]; rfl
          have hnot : (p : Int) ∉ (G.getD i []).take k := by
            intro hm
            have h9 := hI.inc i
            rw [← List.take_append_drop (k + 1) (G.getD i []), htk] at h9
            have := (List.pairwise_append.1 (List.pairwise_append.1 h9).1).2.2 _ hm (p : Int) (by simp)
            omega
          have hz : o.getD p 0 = 0 := by
            rcases hop p (by omega) with ⟨j, hj, hm, _⟩ | ⟨hm, _⟩ | ⟨hz, _⟩
            · obtain ⟨_, _, q3⟩ := hI.mem j _ hm
              have := hI.dis j i (by omega) hi (q3.symm.trans m3)
              omega
            · exact (hnot hm).elim
            · exact hz
          refine ⟨o.set p (IntKind.i64.wrap ((i : Int) + 1)), ⟨by rw [List.length_set]; exact hol, fun q hq => ?_⟩, ?_⟩
          · rw [wrap_id (by omega), getD_set' _ _ _ _ _ (by omega), htk]
            by_cases hqp : q = p
            · subst hqp
              rw [if_pos rfl]
              exact .inr (.inl ⟨by simp, rfl⟩)
            · rw [if_neg hqp]
              rcases hop q hq with h9 | ⟨h8, h9⟩ | ⟨h7, h8, h9⟩
              · exact .inl h9
              · exact .inr (.inl ⟨List.mem_append_left _ h8, h9⟩)
              · refine .inr (.inr ⟨h7, h8, fun hm => ?_⟩)
                rcases List.mem_append.1 hm with hm | hm
                · exact h9 hm
                · rw [List.mem_singleton] at hm; omega
          · rw [l33_GrouperWhole_l11, ← hG]
            simp only [Int.toNat_natCast, hgp, hz, cndO_eq, decide_eq_true_eq, hol]
            rw [obO_pos (by omega), if_pos (by omega), obO_pos (by omega), obO_pos (by omega), if_neg (by omega), if_neg (by omega), obO_pos (by omega), if_neg (by decide), obO_pos (by omega), obO_pos (by omega)])
        (fun o _ => by
          rw [l33_GrouperWhole_l11, ← hG]
          simp only [Int.toNat_natCast, cndO_eq]
          rw [obO_pos (by omega), if_neg (by simp)]) o hI6
      refine ⟨o2, ⟨i2.1, fun p hp => ?_⟩, ?_⟩
      · rcases i2.2 p hp with ⟨j, hj, h8, h9⟩ | ⟨h8, h9⟩ | ⟨h7, h8, h9⟩
        · exact .inl ⟨j, by omega, h8, h9⟩
        · rw [List.take_length] at h8
          exact .inl ⟨i, by omega, h8, h9⟩
        · rw [List.take_length] at h9
          refine .inr (.inr ⟨h7, fun j hj => ?_, by simp⟩)
          by_cases e : j = i
          · rw [e]; exact h9
          · exact h8 j (by omega)
      · rw [l33_GrouperWhole_l6, ← hG]
        simp only [Int.toNat_natCast, cndO_eq]
        rw [if_pos (by simp; omega), obO_pos (by omega), if_neg (by simp; exact fun e => hne (by simpa using e))]
        rw [loop_end L2, l33_GrouperWhole_a11_x2])
    (fun o _ => by
      rw [l33_GrouperWhole_l6, ← hG]
      simp [cndO_eq]) (List.replicate (l.length : Int).toNat (0 : Int)) ⟨by simp, fun p hp => .inr (.inr ⟨by simp [List.getD_eq_getElem?_getD, List.getElem?_replicate, hp], fun j hj => by omega, by simp⟩)⟩
  rw [loop_end L1, l33_GrouperWhole_a6_x0]
  have hfull : ∀ p : Nat, p < l.length → ∃ j, j < G.length ∧ (p : Int) ∈ G.getD j [] ∧ o1.getD p 0 = (j : Int) + 1 := fun p hp => by
    rcases i1.2 p hp with h9 | ⟨h8, _⟩ | ⟨_, h8, _⟩
    · exact h9
    · simp at h8
    · obtain ⟨j, hj, hm⟩ := hI.all (p : Int) (by omega) (by omega)
      exact (h8 j hj hm).elim
  have hol := i1.1
  obtain ⟨_, _, L3⟩ := loop_inv (L := l33_GrouperWhole_L18) (st := fun (_ : Unit) i => l33_GrouperWhole_s18 l o1 i) (n := l.length) (by omega) (fun _ _ => True) (e := .exit 4)
    (fun _ i hi _ => by
      obtain ⟨_, _, L4⟩ := loop_inv (L := l33_GrouperWhole_L21) (st := fun (_ : Unit) k => l33_GrouperWhole_s21 l (i : Int) o1 k) (n := l.length) (by omega) (fun _ _ => True) (e := .exit 6)
        (fun _ k hk _ => by
          obtain ⟨j1, g1, g2, g3⟩ := hfull i hi
          obtain ⟨j2, g4, g5, g6⟩ := hfull k hk
          obtain ⟨_, _, q1⟩ := hI.mem j1 _ g2
          obtain ⟨_, _, q2⟩ := hI.mem j2 _ g5
          refine ⟨(), trivial, ?_⟩
          rw [l33_GrouperWhole_l21]
          simp only [Int.toNat_natCast, cndO_eq, g3, g6, hol, decide_eq_true_eq]
          rw [if_pos (by omega), obO_pos (by omega), if_neg (by simp; omega), obO_pos (by omega), obO_pos (by omega), obO_pos (by omega), obO_pos (by omega)]
          refine if_neg ?_
          have e1 : l.getD i [] = keyAt l (i : Int) := rfl
          have e2 : l.getD k [] = keyAt l (k : Int) := rfl
          unfold value_Orders
          rw [e1, e2]
          have hiff : (((j1 : Int) + 1 == (j2 : Int) + 1) = true) ↔ ((ordR (keyAt l (i : Int)) (keyAt l (k : Int)) == 0) = true) := by
            rw [beq_iff_eq, beq_iff_eq, ordR_zero]
            constructor
            · intro e
              have : j1 = j2 := by omega
              subst this
              exact q1.trans q2.symm
            · intro e
              have := hI.dis j1 j2 g1 g4 (q1.symm.trans (e.trans q2))
              omega
          rw [Bool.eq_iff_iff.2 hiff]; simp)
        (fun _ _ => by
          rw [l33_GrouperWhole_l21]
          simp [cndO_eq]) () trivial
      refine ⟨(), trivial, ?_⟩
      rw [l33_GrouperWhole_l18]
      simp only [cndO_eq]
      rw [if_pos (by simp; omega), loop_end L4, l33_GrouperWhole_a21_x6])
    (fun _ _ => by
      rw [l33_GrouperWhole_l18]
      simp [cndO_eq]) () trivial
  rw [loop_end L3, l33_GrouperWhole_a18_x4]
  rfl
def F_l33_GrouperWhole : FnC Un := fun args => match args with
  | [x0] => (dL .row x0).bind fun l => some ([l.length ≤ 100 → keysOK l], A_l33_GrouperWhole (l33_GrouperWhole l), O_l33_GrouperWhole (l33_GrouperWhole l))
  | _ => none
theorem ok_l33_GrouperWhole : FnOK 4 F_l33_GrouperWhole := by
  intro args ob rs os h hob
  unfold F_l33_GrouperWhole at h
  split at h
  · simp only [Option.bind_eq_some_iff, Option.some.injEq, Prod.mk.injEq] at h
    obtain ⟨l, e0, rfl, rfl, rfl⟩ := h
    obtain rfl := dL_eq e0
    exact ⟨fn_contractF (M := M_l33_GrouperWhole) rfl (tbl_ok (l1 := [(6, F_l33_awake), (8, F_grouper_Groups), (15, F_value_Orders)]) (l2 := []) (l3 := []) (l4 := []) (l5 := []) ⟨ok_l33_awake, ok_grouper_Groups, ok_value_Orders, trivial⟩ trivial trivial trivial trivial) Tryd.func4 (by kernel_rfl) N_l33_GrouperWhole 6 [.d] (fun hwf => (l33_GrouperWhole_spec l (wfArg hwf (a := .d (.v (.dat (U := Un) Ty.row l))) (List.mem_of_getElem? (i := 0) rfl)) (hob _ (List.mem_of_getElem? (i := 0) rfl)))), hasBody_of Tryd.func4 (by kernel_rfl) (by kernel_rfl)⟩
  · simp at h
end
end Go.Proofs.YtfdnnfbbjiglcaaDoor.B
namespace Go.Proofs.YtfdnnfbbjiglcaaDoor.grouperSaysUpto
open Go.ChangeShapes Go.WideShapes Go.ChangeAt Go.RowKit
open Go Go.Proofs.YtfdnnfbbjiglcaaDoor.B
set_option linter.unusedVariables false
theorem own : ownKnob Tryd.prog.godebug = none := by kernel_rfl
theorem laid_met (os : Os) : laidMet Tryd.prog Rows.grouperSaysUptoRow.laid ((laidWorld os).forCall (fun _ _ => 0) ⟨#[], #[.slice none 0 0], []⟩).memory :=
  laidMet_of_run' 8 (by kernel_rfl) (by kernel_rfl)
theorem reads (os : Os) {H : Type} (enc : TypeId × Value → H) : ∃ places, DataW.whole enc Tryd.prog ((laidWorld os).forCall (fun _ _ => 0) ⟨#[], #[.slice none 0 0], []⟩).memory Tryd.f3.params.toList Rows.grouperSaysSpec.vars false (#[.slice none 0 0] : Array Value).toList 12 = some ([.nil], [], places) :=
  ⟨[], by kernel_rfl⟩
set_option maxRecDepth 100000 in
theorem lifted (os : Os) (started : os.Started) (H : Type) (enc : TypeId × Value → H) (F : Stop.Interp) :
    ReturnsInHanded {} Tryd.checked os 3 .any ((Rows.OpenSpec.upto Rows.grouperSaysSpec).preRow enc Tryd.prog Tryd.f3 Rows.grouperSaysUptoRow.domain false Rows.grouperSaysUptoRow.laid) (((Rows.OpenSpec.upto Rows.grouperSaysSpec).at F).post enc Tryd.prog Tryd.f3 false true false false) := by
  obtain ⟨places, hx⟩ := reads os enc
  refine returnsInHanded_of_row (C := Tryd.checked) (s := Rows.OpenSpec.upto Rows.grouperSaysSpec) own started (by kernel_rfl) Tryd.func3
    (witness_row_at (enc := enc) (C := Tryd.checked) false (laidWorld os) #[.slice none 0 0] rfl (by kernel_rfl) (by kernel_rfl) (by kernel_rfl)
      (OpenSpec.preRow_of_cond 12 hx (by kernel_rfl) (fun k hk => by cases hk; kernel_rfl) (by kernel_rfl) (laid_met os))) ?_
  intro W base args ds gs before hval0 hW _ hk0 _ hL _ _
  have hk := hk0 _ rfl
  have hval : ∀ (j : Nat) t v, Tryd.f3.params[j]? = some t → args[j]? = some v → Value.okWide Tryd.prog W .any base t v := hval0
  have hW2 := hW
  obtain ⟨p, q, hA0, hV, rfl, hfz, hnd⟩ := hW
  have hA : DataW.TrodAll enc Tryd.prog W 0 (fun _ => true) true Tryd.f3.params.toList args.toList ds p := hA0
  rw [Tryd.params3] at hA hval
  obtain ⟨v0, vs0, d0, ds0, p0, q0, hargs, rfl, rfl, h0, r0⟩ := trodAll_cons hA
  obtain ⟨rfl, rfl, rfl⟩ := trodAll_nil r0
  obtain rfl : args = #[v0] := by cases args; simp_all
  obtain ⟨rfl, rfl⟩ := trodVars_none hV
  obtain ⟨a0, w0, -, b0⟩ := arg_slU (tiL_sl (t := 22) (τ := .row) (by kernel_rfl)) (hval 0 22 v0 rfl rfl) h0
  have hsum : Rows.uptoBulkAll ([d0] ++ []) ≤ 1048576 := of_decide_eq_true hk
  simp only [List.append_nil, Rows.uptoBulkAll] at hsum
  clear hA0 hval0
  simp only [List.append_nil] at hW2
  have hc := law_calls ok_l33_GrouperSays (args := [.d (.v (.dat (U := Un) Ty.row a0))]) (by
    unfold F_l33_GrouperSays
    simp only [dL_mk]
    rfl) (by
    intro p hp
    simp only [List.mem_cons, List.not_mem_nil, or_false] at hp
    obtain ⟨e1, e2⟩ := bkKeys a0 _ b0 (VRel.wf w0) (by omega)
    subst hp
    intro _
    exact ⟨fun r hr => ⟨by have := (e2 r hr).1; omega, by have := (e2 r hr).2; omega⟩, by omega, fun r hr => by have := (e2 r hr).1; omega⟩) (w := W) (vs := [v0]) ⟨w0, trivial⟩ (laid_of hL)
  refine hc.mono fun e W3 ⟨he, hg⟩ => ?_
  subst he
  exact ⟨_, rfl, law_post (by kernel_rfl) (by kernel_rfl) (tb := 4) (by kernel_rfl) Tryd.underlying4 rfl (fun l hl => match l, hl with | [_], _ => ⟨rfl, rfl, rfl⟩) hW2 hg⟩
theorem over : Rows.grouperSaysUptoRow.holds Tryd.pinned (Rows.OpenSpec.upto Rows.grouperSaysSpec) :=
  OpenClaim.holds_of_cond 3 Tryd.f3 rfl rfl rfl rfl rfl rfl rfl ⟨rfl, rfl, rfl, rfl, rfl⟩ rfl rfl rfl rfl rfl (by kernel_rfl) Tryd.func3 (by kernel_rfl)
    (of_decide_eq_true (by kernel_rfl)) (by unfold Func.isWrapper; first | (rw [if_pos (by decide +kernel)]; kernel_rfl) | (rw [if_neg (by decide +kernel)]; exact ⟨rfl, rfl⟩))
    (fun os started H enc _ F => by rw [OpenClaim.pre_eq_preRow]; exact lifted os started H enc F)
theorem plain (f : FuncId) (fn : Func) (hf : Tryd.pinned.checked.prog.funcNamed "tabellion/tabellionlaw33.GrouperSays" = some f) (hfn : Tryd.pinned.checked.prog.funcs[f]? = some fn) :
    false = Tryd.pinned.checked.prog.looks [] ∧ ∀ (j : Nat) t, fn.params[j]? = some t → Tryd.pinned.checked.prog.wantsStandIn t = false := by
  obtain rfl : f = 3 := Option.some.inj ((show Tryd.prog.funcNamed "tabellion/tabellionlaw33.GrouperSays" = some 3 by kernel_rfl).symm.trans hf) |>.symm
  obtain rfl : fn = Tryd.f3 := (Option.some.inj (Tryd.func3.symm.trans hfn)).symm
  refine ⟨by kernel_rfl, fun j t ht => ?_⟩
  rw [Tryd.params3] at ht
  have hm := Array.mem_of_getElem? ht
  simp only [List.mem_toArray, List.mem_cons, List.not_mem_nil, or_false] at hm
  rcases hm with rfl
  exact (show Tryd.prog.wantsStandIn 22 = false by kernel_rfl)
theorem proved : Rows.GrouperSaysUptoCardSaid :=
  Claim7.holds_tied_plain_at .later [] _ _ _ _ over (fun _ h => by cases h) (by kernel_rfl) (fun _ h => by cases h) grouperSaysUpto_row_tie rfl ⟨rfl, rfl⟩ (by kernel_rfl) rfl plain (by kernel_rfl)
end Go.Proofs.YtfdnnfbbjiglcaaDoor.grouperSaysUpto
