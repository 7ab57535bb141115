/- Part 14 of the proof: Lref33 Lscalar Lcompare Slcmp Svcmp. -/
import Derived.WalkKit
import Derived.Lib.Walk
import Derived.Lib.Hide
import Derived.Deep.LoopGhost
import Derived.Deep.RegionHeld3
import Derived.Deep.AppendLies
import Derived.Deep.QuietTactic
import Derived.BigQuiet
import Derived.Deep.Cut
import Derived.Lib.Bytealg
import Derived.Lib.Strings
import Derived.Test.YtfdnnfbbjiglcaaDoorGrp13
namespace Go.Proofs.YtfdnnfbbjiglcaaDoor.B
open Go Go.RowKit
set_option maxRecDepth 1000000
set_option linter.unusedVariables false
noncomputable section
def cellsI (g : List Int) : Nat × List Value := (g.length, g.map (Value.int .i64))
structure R33 (w : World) (keys : List (List Val)) (i : Nat) (v : Value) (cs : List Value) (wr : World) : Prop where
  ext : Ext w wr
  nest : Nest wr w.heap.size 30 3 1 0 1 v cs ((gRun (keyAt keys) i).map cellsI)
theorem grown_of_ext {w w' : World} (h : Ext w w') : w.grownBy w' none := ⟨h.os, h.tape, h.output, h.size, fun k hk _ => Below.block h k hk⟩
theorem nest_head {w : World} {base : Nat} {te ti : TypeId} {g cp : Nat} {cs : List Value} {out : List (List Int)} (h : Nest w base te ti 1 0 1 (.slice (some ⟨g, 0, none⟩) out.length cp) cs (out.map cellsI)) (k : Nat) (hk : k < out.length) (hne : out.getD k [] ≠ []) :
    ∃ ub ucap : Nat, w.cell? ⟨g, k, none⟩ = some (.slice (some ⟨ub, 0, none⟩) (out.getD k []).length ucap) ∧ w.cell? ⟨ub, 0, none⟩ = some (.int .i64 ((out.getD k []).headD 0)) ∧ g < w.heap.size ∧ ub < w.heap.size ∧ out.length ≤ cp ∧ (out.getD k []).length ≤ ucap := by
  have hy : (out.map cellsI)[k]? = some (cellsI (out.getD k [])) := by
    rw [List.getElem?_map, List.getElem?_eq_getElem hk, List.getD_eq_getElem?_getD, List.getElem?_eq_getElem hk]; rfl
  obtain ⟨g', cap, u, e1, _, _, e3, _, e5, _⟩ := h.get (by omega) (by omega) hy
  simp only [Value.slice.injEq, Option.some.injEq, Addr.mk.injEq, List.length_map, true_and, and_true] at e1
  obtain ⟨rfl, rfl⟩ := e1
  rw [Nat.mul_one, Nat.add_zero] at e3
  have hl := h.outer
  have hcp : out.length ≤ cp := by
    obtain ⟨_, ⟨hv, _⟩ | ⟨g2, cap2, cur, hv, _, _, hc, _⟩⟩ := hl
    · simp at hv
    · simp only [Value.slice.injEq, List.length_map] at hv; obtain ⟨_, _, rfl⟩ := hv; simpa using hc
  obtain ⟨p, r, hpr⟩ : ∃ p r, out.getD k [] = p :: r := by
    cases hc : out.getD k [] with
    | nil => exact (hne hc).elim
    | cons p r => exact ⟨p, r, rfl⟩
  rw [hpr] at e5 ⊢
  have e5' := e5
  obtain ⟨hcl, ⟨_, h0⟩ | ⟨ub, ucap, cur, hu, _, _, hcr, _⟩⟩ := e5
  · simp [cellsI] at h0
  · subst hu
    have hc0 := e5'.cellAt 0 (by simp [cellsI])
    have hroom : (p :: r).length ≤ ucap := by simpa [cellsI] using hcr
    refine ⟨ub, ucap, e3, ?_, lt_of_cell e3, (e5'.lt ub rfl).2, hcp, hroom⟩
    simpa [cellsI] using hc0
theorem ext_grown {w W W5 : World} {row : Option Nat} (hx : Ext w W) (hg : W.grownBy W5 row) (hr : ∀ b, row = some b → w.heap.size ≤ b) : Ext w W5 :=
  Below.trans hx ⟨hg.os, hg.tape, hg.output, hg.size, fun k hk => hg.block k (Nat.lt_of_lt_of_le hk hx.size) (fun e => by have := hr k e.symm; omega)⟩
theorem gRun_succ {K : Type} [DecidableEq K] (key : Int → K) (n : Nat) : gRun key (n + 1) = gStep key (gRun key n) n := by
  unfold gRun
  rw [List.range_succ, List.foldl_append, List.foldl_cons, List.foldl_nil]
theorem nest_at {w : World} {base : Nat} {te ti : TypeId} {g cp : Nat} {cs : List Value} {out : List (List Int)} (h : Nest w base te ti 1 0 1 (.slice (some ⟨g, 0, none⟩) out.length cp) cs (out.map cellsI)) (k : Nat) (hk : k < out.length) :
    ∃ u, cs[k]? = some u ∧ w.cell? ⟨g, k, none⟩ = some u ∧ w.frozen? ⟨g, k, none⟩ = false ∧ w.ownsRow base ti 1 u (out.getD k []).length ((out.getD k []).map (Value.int .i64)) ∧ (u.ownBlock = none ∨ u.ownBlock ≠ some g) ∧ g < w.heap.size ∧ base ≤ g ∧ out.length ≤ cp := by
  have hy : (out.map cellsI)[k]? = some (cellsI (out.getD k [])) := by
    rw [List.getElem?_map, List.getElem?_eq_getElem hk, List.getD_eq_getElem?_getD, List.getElem?_eq_getElem hk]; rfl
  obtain ⟨g', cap, u, e1, e2, e0, e3, e4, e5, e6⟩ := h.get (by omega) (by omega) hy
  simp only [Value.slice.injEq, Option.some.injEq, Addr.mk.injEq, List.length_map, true_and, and_true] at e1
  obtain ⟨rfl, rfl⟩ := e1
  rw [Nat.mul_one, Nat.add_zero] at e3 e4 e0
  have hcp : out.length ≤ cp := by
    obtain ⟨_, ⟨hv, _⟩ | ⟨g2, cap2, cur, hv, _, _, hc, _⟩⟩ := h.outer
    · simp at hv
    · simp only [Value.slice.injEq, List.length_map] at hv; obtain ⟨_, _, rfl⟩ := hv; simpa using hc
  exact ⟨u, e0, e3, e4, e5, e6, lt_of_cell e3, e2, hcp⟩
theorem nest_put {w w5 : World} {base : Nat} {te ti : TypeId} {g cp : Nat} {cs : List Value} {out : List (List Int)} (h : Nest w base te ti 1 0 1 (.slice (some ⟨g, 0, none⟩) out.length cp) cs (out.map cellsI)) {k : Nat} (hk : k < out.length) {u : Value} (hu : cs[k]? = some u) {x : Int} {g5 n5 cap5 : Nat} {o : Obj}
    (ho : w5.ownsRow base ti 1 (.slice (some ⟨g5, 0, none⟩) n5 cap5) ((out.getD k []).length + 1) ((out.getD k []).map (Value.int .i64) ++ [.int .i64 x])) (hg : (w.alloc o).grownBy w5 u.ownBlock) (hb : u.ownBlock = some g5 ∨ g5 = (w.alloc o).heap.size) :
    Nest (w5.setCell ⟨g, k, none⟩ (.slice (some ⟨g5, 0, none⟩) n5 cap5)) base te ti 1 0 1 (.slice (some ⟨g, 0, none⟩) out.length cp) (cs.set k (.slice (some ⟨g5, 0, none⟩) n5 cap5)) ((out.set k (out.getD k [] ++ [x])).map cellsI) := by
  have hy : (out.map cellsI)[k]? = some (cellsI (out.getD k [])) := by
    rw [List.getElem?_map, List.getElem?_eq_getElem hk, List.getD_eq_getElem?_getD, List.getElem?_eq_getElem hk]; rfl
  have h2 : Nest (w.alloc o) base te ti 1 0 1 (.slice (some ⟨g, 0, none⟩) out.length cp) cs (out.map cellsI) := h.kept (World.grownBy_alloc w o none) (fun b hb => by simp at hb)
  have := h2.app (by omega) (by omega) (i := k) (g := g) (cap := cp) hy (by rw [List.length_map]) (by rw [Nat.mul_one, Nat.add_zero]; exact hu) ho hg (hb.imp (fun e => e.symm) (fun e => by rw [← e]; rfl))
  rw [Nat.mul_one, Nat.add_zero] at this
  rw [List.map_set]
  have e : cellsI (out.getD k [] ++ [x]) = ((out.getD k []).length + 1, (out.getD k []).map (Value.int .i64) ++ [.int .i64 x]) := by simp [cellsI]
  rw [e]
  exact this
theorem nest_new {w w6 : World} {base : Nat} {te ti : TypeId} {g cp g6 cp6 : Nat} {cs : List Value} {out : List (List Int)} (h : Nest w base te ti 1 0 1 (.slice (some ⟨g, 0, none⟩) out.length cp) cs (out.map cellsI)) {o2 : Obj} (hb : base ≤ w.heap.size)
    (ho : w6.ownsRow base te 1 (.slice (some ⟨g6, 0, none⟩) (out.length + 1) cp6) (out.length + 1) (cs ++ [.slice (some ⟨w.heap.size, 0, none⟩) 0 0])) (hg : ((w.alloc (.cells #[] ti)).alloc o2).grownBy w6 (some g)) (hlt : g < w.heap.size) (hat : g = g6 ∨ g6 = w.heap.size + 2) :
    Nest w6 base te ti 1 0 1 (.slice (some ⟨g6, 0, none⟩) (out ++ [[]]).length cp6) (cs ++ [.slice (some ⟨w.heap.size, 0, none⟩) 0 0]) ((out ++ [[]]).map cellsI) := by
  have hh : w6.heap[w.heap.size]? = some (.cells #[] ti (0, 0)) := by
    rw [hg.block w.heap.size (by simp; omega) (by simp; omega)]
    rw [heap_alloc_old _ _ (by simp)]
    exact heap_alloc_new w _
  have := h.push (w' := w6) (v' := .slice (some ⟨g6, 0, none⟩) (out.length + 1) cp6) [.slice (some ⟨w.heap.size, 0, none⟩) 0 0] rfl rfl
    ⟨rfl, .inr ⟨w.heap.size, 0, #[], rfl, hb, hh, Nat.le_refl _, Nat.zero_le _, rfl, rfl⟩⟩ (fun b hb => by
      simp only [Value.ownBlock, Option.some.injEq] at hb
      subst hb
      refine ⟨Nat.le_refl _, fun e => ?_⟩
      simp only [Value.ownBlock, Option.some.injEq] at e
      omega) (by rw [List.length_map]; exact ho)
    (((World.grownBy_alloc w _ (some g)).trans (World.grownBy_alloc _ _ (some g))).trans hg) (by
      rcases hat with e | e
      · exact .inl (by rw [e]; rfl)
      · exact .inr ⟨g6, rfl, by omega⟩)
  rw [List.map_append, List.length_append]
  exact this
set_option maxHeartbeats 8000000 in
theorem r33_walk (keys : List (List Val)) (a : Option Addr) (b off cap : Nat) (kv : Nat → Value) (w : World) (hlen : keys.length ≤ 2000000) (ha : keys ≠ [] → a = some ⟨b, off, none⟩ ∧ keys.length ≤ cap)
    (hord : ∀ (i j : Nat) (W : World), Ext w W → i < keys.length → j < keys.length → Calls Tryd.prog 19 #[kv i, kv j] W fun e W' => e = .returned (.int .i64 (ordR (keys.getD i []) (keys.getD j []))) ∧ Ext W W')
    (hcell : ∀ i, i < keys.length → w.cell? ⟨b, off + i, none⟩ = some (kv i)) :
    Calls Tryd.prog 9 #[.slice a keys.length cap] w fun e w' => ∃ v cs, e = .returned v ∧ R33 w keys keys.length v cs w' := by
  have mixed : Tryd.prog.follows .mixedOrders = true := by kernel_rfl
  go_enter Tryd.func9, Tryd.ntmps9
  go_wp2
  go_loopw [3, 4] (fun s3 s4 wr => ∃ (i g cp : Nat) (cs : List Value), i ≤ keys.length ∧ s3 = .slice (some ⟨g, 0, none⟩) (gRun (keyAt keys) i).length cp ∧ s4 = .int .i64 i ∧ R33 w keys i (.slice (some ⟨g, 0, none⟩) (gRun (keyAt keys) i).length cp) cs wr) (fun _ s4 _ => keys.length - (intOf s4).toNat)
  case atStart =>
    have e0 : gRun (keyAt keys) 0 = [] := rfl
    have hh : (w.alloc (Obj.cells #[] 30)).heap[w.heap.size]? = some (.cells #[] 30 (0, 0)) := by
      have : ∀ (h : Array Obj) (o : Obj), (h.push o)[h.size]? = some o := fun h o => by simp
      exact this w.heap _
    refine ⟨0, w.heap.size, 0, [], Nat.zero_le _, rfl, rfl, ⟨(Ext.refl w).alloc _, ?_⟩⟩
    rw [e0]
    exact ⟨⟨rfl, .inr ⟨w.heap.size, 0, #[], rfl, Nat.le_refl _, hh, Nat.le_refl _, Nat.zero_le _, rfl, rfl⟩⟩, fun i m zs h => by simp at h, fun i j u u' _ h => by simp at h⟩
  case round =>
    obtain ⟨i, g, cp, cs, hi, rfl, rfl, hr⟩ := hrel
    have hGI := gRun_ok (keyAt keys) i
    have hgl : (gRun (keyAt keys) i).length ≤ i := gRun_len (keyAt keys) i
    generalize hout : gRun (keyAt keys) i = out at hr hGI hgl
    by_cases hlt : i < keys.length
    · obtain ⟨rfl, hcap⟩ := ha (fun e => by rw [e] at hlt; simp at hlt)
      have HR := Lib.hid hr
      clear hr
      go_wp2_with fail
      go_loopw [5] (fun s5 wr2 => ∃ (k : Nat), k ≤ out.length ∧ s5 = .int .i64 k ∧ (∀ j, j < k → keyAt keys ((out.getD j []).headD 0) ≠ keyAt keys (i : Int)) ∧ RowKit.Hid (Ext w wr2 ∧ Nest wr2 w.heap.size 30 3 1 0 1 (.slice (some ⟨g, 0, none⟩) out.length cp) cs (out.map cellsI))) (fun s5 _ => out.length - (intOf s5).toNat)
      case atStart => exact ⟨0, Nat.zero_le _, rfl, fun j hj => absurd hj (Nat.not_lt_zero _), Lib.hid ⟨HR.out.ext, by have hn := HR.out.nest; rw [hout] at hn; exact hn⟩⟩
      case round =>
        obtain ⟨k, hk, rfl, hne, hr2⟩ := hrel
        by_cases hkl : k < out.length
        · obtain ⟨ub, ucap, c1, c2, l1, l2, hcp, hcap1⟩ := nest_head hr2.out.2 k hkl (hGI.ne k hkl)
          obtain ⟨hd, hdl, hdh⟩ : ∃ hd : Nat, hd < i ∧ (out.getD k []).headD 0 = (hd : Int) := by
            obtain ⟨m1, m2, _⟩ := hGI.mem k ((out.getD k []).headD 0) (by
              cases hc : out.getD k [] with
              | nil => exact (hGI.ne k hkl hc).elim
              | cons p r => exact List.mem_cons_self)
            exact ⟨((out.getD k []).headD 0).toNat, by omega, by omega⟩
          rw [hdh] at c2
          have d1 := hcell hd (by omega)
          have d2 := hcell i hlt
          have x2 := hr2.out.1
          have d3 := x2.keeps d1
          have d4 := x2.keeps d2
          have hO := hord hd i _ x2.drew (by omega) hlt
          have hb0 : (0 : Int) ≤ (hd : Int) := by omega
          have hb1 : (hd : Int) < (keys.length : Int) := by omega
          have hb2 : (i : Int) < (keys.length : Int) := by omega
          generalize hz : ordR (keys.getD hd []) (keys.getD i []) = z at hO
          obtain ⟨gl', hgl1⟩ : ∃ gl', (out.getD k []).length = gl' + 1 := ⟨(out.getD k []).length - 1, by have := List.length_pos_iff.2 (hGI.ne k hkl); omega⟩
          have hil := GI.len _ hGI k
          rw [hgl1] at c1 hil hcap1
          have hg1 : decide ((k : Int) < (out.length : Int)) = true := decide_eq_true (by omega)
          have X2 := Lib.hid x2
          have NE := Lib.hid hne
          have GI1 := Lib.hid hGI
          have HZ := Lib.hid hz
          clear x2 hne hGI d1 d2 hz
          go_wp2_with fail
          go_region_held3 (fun w' => w'.cell? ⟨g, k, none⟩ = some (.slice (some ⟨ub, 0, none⟩) (gl' + 1) ucap) ∧ w'.cell? ⟨ub, 0, none⟩ = some (.int .i64 hd) ∧ w'.cell? ⟨b, off + hd, none⟩ = some (kv hd) ∧ w'.cell? ⟨b, off + i, none⟩ = some (kv i)) (first | go_keep | (exact ⟨hx.keeps (by simpa using c1), hx.keeps (by simpa using c2), hx.keeps (by simpa using d3), hx.keeps (by simpa using d4)⟩))
            (first | (go_at_call 19; refine hO.mono ?_; rintro e W' ⟨rfl, hx⟩))
          have c1' := hx.keeps (show _ = some (.slice (some ⟨ub, 0, none⟩) (gl' + 1) ucap) by simpa using c1)
          have hx3 := (Ext.refl _).drew.trans hx
          have NS := Lib.hid (hr2.out.2.kept (grown_of_ext hx3) (fun b hb => by simp at hb))
          have X3 := Lib.hid (X2.out.trans hx3)
          clear hx hx3 hr2 X2 c1 c2 d3 d4 hO
          by_cases hz0 : z = 0
          · subst hz0
            have hz1 : ((0 : Int) != 0) = false := rfl
            obtain ⟨bytes, iI, zI, hby, hbp, _, und, hi0, hi1, hi2, hi3, hi4⟩ := slOf (t := 30) (e := 3) (τ := .int) (by kernel_rfl)
            obtain ⟨u, n1, n2, n3, n4, n5, n6, n7, n8⟩ := nest_at NS.out k hkl
            rw [c1'] at n2
            obtain rfl := Option.some.inj n2
            rw [hgl1] at n4
            obtain ⟨O5, hO5⟩ : ∃ O, O = Obj.cells #[Value.int .i64 (i : Int)] 3 := ⟨_, rfl⟩
            have f3 : (W'.alloc (Obj.cells #[Value.int .i64 (i : Int)] 3)).frozen? ⟨g, k, none⟩ = false := ((World.grownBy_alloc W' _ none).frozen_far _ n6 (by simp)).trans n3
            have c3 : (W'.alloc (Obj.cells #[Value.int .i64 (i : Int)] 3)).cell? ⟨g, k, none⟩ = some (.slice (some ⟨ub, 0, none⟩) (gl' + 1) ucap) := ((World.grownBy_alloc W' _ none).cell_far _ n6 (by simp)).trans c1'
            have ne5 : some g ≠ some ub := by
              rcases n5 with e | e
              · simp [Value.ownBlock] at e
              · exact fun e2 => e e2.symm
            have C3 := Lib.hid c3
            have F3 := Lib.hid f3
            clear c1' n2 c3 f3 hO5 O5
            have N1 := Lib.hid n1
            have N4 := Lib.hid n4
            have HG := Lib.hid hgl1
            clear n1 n4 n5 hgl1
            go_wp2_with (first
              | (at_builtin; refine wpList_append_lies _ rfl _ _ _ rfl w.heap.size 3 iI zI 1 bytes und hi0 hi3 hi1 hi2 hi4 (by omega) _ _ _ rfl (N4.out.alloc _) ⟨W'.heap.size, 0, none⟩ 1 1 [.int .i64 i] rfl rfl (cell_one_new _ _ _) (ints_oneCell .i64 [(i : Int)]) (by omega) (by unfold maxLen; omega) (Nat.le_trans (Nat.mul_le_mul (show gl' + 1 + 1 ≤ 2000001 by omega) hby) (by decide)) (by have := X3.out.size; simp; omega) _ rfl ?_; intro g5 cap5 w5 hown5 hgrow hat hlt5; have s1 := (hgrow.cell_far ⟨g, k, none⟩ (by simp; omega) ne5).trans C3.out; have s2 := (hgrow.frozen_far ⟨g, k, none⟩ (by simp; omega) ne5).trans F3.out; have HO5 := Lib.hid hown5; have HG5 := Lib.hid hgrow; have HA5 := Lib.hid hat; clear hown5 hgrow hat))
            go_roundw
            case rel =>
              have hk0 : keyAt keys ((out.getD k []).headD 0) = keyAt keys (i : Int) := by
                rw [hdh]; unfold keyAt; rw [Int.toNat_natCast, Int.toNat_natCast]
                exact ordR_zero.1 HZ.out
              have hg := gAt_eq _ GI1.out hkl hk0
              have hstep : gRun (keyAt keys) (i + 1) = out.set k (out.getD k [] ++ [(i : Int)]) := by
                rw [gRun_succ, hout]; unfold gStep gAdd; rw [hg, if_pos hkl]
              have hpn := nest_put NS.out hkl N1.out (by rw [HG.out]; exact HO5.out) HG5.out HA5.out
              refine ⟨i + 1, g, cp, cs.set k (.slice (some ⟨g5, 0, none⟩) (gl' + 1 + 1) cap5), by omega, ?_, by go_num, ?_⟩
              · rw [hstep, List.length_set]
              · rw [hstep, List.length_set]
                refine ⟨(ext_grown (X3.out.alloc _) HG5.out (fun b hb => (N4.out.lt b hb).1)).setCell (by simpa using n7) _, by rw [hstep]; exact hpn⟩
            case measure => simp [intOf]; omega
          · have hz1 : (z != 0) = true := by simpa using hz0
            go_wp2_with fail
            go_roundw
            case rel =>
              refine ⟨k + 1, by omega, by go_num, fun j hj => ?_, Lib.hid ⟨X3.out, NS.out⟩⟩
              by_cases e : j = k
              · subst e
                rw [hdh]; unfold keyAt; rw [Int.toNat_natCast, Int.toNat_natCast]
                exact fun e => hz0 (HZ.out.symm.trans (ordR_zero.2 e))
              · exact NE.out j (by omega)
            case measure => simp [intOf]; omega
        · have hkl2 : k = out.length := by omega
          subst hkl2
          have hg1 : decide ((out.length : Int) < (out.length : Int)) = false := decide_eq_false (by omega)
          have NE := Lib.hid hne
          have GI1 := Lib.hid hGI
          clear hne hGI
          go_wp2_with fail
          go_quiet (fail)
          have hx3 : Ext wr (World.drewN wr nq) := (Ext.refl wr).drewN nq
          generalize World.drewN wr nq = W' at hx3
          have NS := Lib.hid (hr2.out.2.kept (grown_of_ext hx3) (fun b hb => by simp at hb))
          have X3 := Lib.hid (hr2.out.1.trans hx3)
          clear hx3 hr2
          obtain ⟨bO, iO, zO, hbO, _, _, undO, ho0, ho1, ho2, ho3, ho4⟩ := slOf (t := 25) (e := 30) (τ := .ints) (by kernel_rfl)
          obtain ⟨bytes, iI, zI, hby, hbp, _, und, hi0, hi1, hi2, hi3, hi4⟩ := slOf (t := 30) (e := 3) (τ := .int) (by kernel_rfl)
          have n0 := NS.out.outer
          rw [List.length_map] at n0
          have N0 := Lib.hid n0
          clear n0
          have hgl0 : g < W'.heap.size := (N0.out.lt g rfl).2
          have hgl1 : w.heap.size ≤ g := (N0.out.lt g rfl).1
          go_upto_region 10 with (first
              | (at_builtin; refine wpList_append_lies _ rfl _ _ _ rfl w.heap.size 30 iO zO 1 bO undO ho0 ho3 ho1 ho2 ho4 (by omega) _ _ _ rfl ((N0.out.alloc _).alloc _) ⟨W'.heap.size + 1, 0, none⟩ 1 1 [.slice (some ⟨W'.heap.size, 0, none⟩) 0 0] rfl rfl (by have h := cell_one_new (W'.alloc (.cells #[] 3)) (.slice (some ⟨W'.heap.size, 0, none⟩) 0 0) 30; simpa using h) (by simp [Value.oneCell']) (by omega) (by unfold maxLen; omega) (Nat.le_trans (Nat.mul_le_mul (show out.length + 1 ≤ 2000001 by omega) hbO) (by decide)) (by have := X3.out.size; simp; omega) (W'.heap.size + 2) (by simp) ?_; intro g6 cap6 w6 hown6 hgrow6 hat6 hlt6))
          have NS6 := Lib.hid (nest_new NS.out X3.out.size hown6 hgrow6 hgl0 ((show some g = some g6 ∨ g6 = W'.heap.size + 2 from hat6).imp Option.some.inj id))
          have X6 := Lib.hid (ext_grown ((X3.out.alloc _).alloc _) hgrow6 (fun b hb => (N0.out.lt b hb).1))
          have hcl : cs.length = out.length := by have := N0.out.1; rw [Nat.mul_one] at this; exact this
          have hkl : out.length < (out ++ [[]]).length := by simp
          have hget : (out ++ [([] : List Int)]).getD out.length [] = [] := by simp
          obtain ⟨u, n1, n2, n3, n4, n5, n6, n7, n8⟩ := nest_at NS6.out out.length hkl
          have hu : u = .slice (some ⟨W'.heap.size, 0, none⟩) 0 0 := by
            rw [← hcl, List.getElem?_append_right (Nat.le_refl _), Nat.sub_self] at n1
            exact (Option.some.inj n1).symm
          subst hu
          rw [hget] at n4
          have hlen1 : (out ++ [([] : List Int)]).length = out.length + 1 := by simp
          rw [hlen1] at n8
          have f3 : (w6.alloc (Obj.cells #[Value.int .i64 (i : Int)] 3)).frozen? ⟨g6, out.length, none⟩ = false := ((World.grownBy_alloc w6 _ none).frozen_far _ n6 (by simp)).trans n3
          have c3 : (w6.alloc (Obj.cells #[Value.int .i64 (i : Int)] 3)).cell? ⟨g6, out.length, none⟩ = some (.slice (some ⟨W'.heap.size, 0, none⟩) 0 0) := ((World.grownBy_alloc w6 _ none).cell_far _ n6 (by simp)).trans n2
          have ne5 : some g6 ≠ some W'.heap.size := by
            rcases n5 with e | e
            · simp [Value.ownBlock] at e
            · exact fun e2 => e e2.symm
          have C3 := Lib.hid c3
          have F3 := Lib.hid f3
          have N1 := Lib.hid n1
          have N4 := Lib.hid n4
          have HC := Lib.hid hcl
          have HL := Lib.hid hlen1
          have HGT := Lib.hid hget
          have hb2 : (i : Int) < (keys.length : Int) := by omega
          clear c3 f3 n1 n4 n5 hown6 hgrow6 hat6 hcl hlen1 hget
          go_wp2_with (first
            | (at_builtin; refine wpList_append_lies _ rfl _ _ _ rfl w.heap.size 3 iI zI 1 bytes und hi0 hi3 hi1 hi2 hi4 (by omega) _ _ _ rfl (N4.out.alloc _) ⟨w6.heap.size, 0, none⟩ 1 1 [.int .i64 i] rfl rfl (cell_one_new _ _ _) (ints_oneCell .i64 [(i : Int)]) (by omega) (by unfold maxLen; simp) (Nat.le_trans (Nat.mul_le_mul (show ([] : List Int).length + 1 ≤ 2000001 by simp) hby) (by decide)) (by have := X6.out.size; simp; omega) _ rfl ?_; intro g5 cap5 w5 hown5 hgrow hat hlt5; have s1 := (hgrow.cell_far ⟨g6, out.length, none⟩ (by simp; omega) ne5).trans C3.out; have s2 := (hgrow.frozen_far ⟨g6, out.length, none⟩ (by simp; omega) ne5).trans F3.out; have HO5 := Lib.hid hown5; have HG5 := Lib.hid hgrow; have HA5 := Lib.hid hat; clear hown5 hgrow hat))
          go_roundw
          case rel =>
            have hng : ¬ gAt (keyAt keys) (keyAt keys (i : Int)) out < out.length := fun hl => NE.out _ hl (gAt_lt _ hl)
            have hstep : gRun (keyAt keys) (i + 1) = (out ++ [[]]).set out.length ((out ++ [[]]).getD out.length [] ++ [(i : Int)]) := by
              rw [gRun_succ, hout, HGT.out]; unfold gStep gAdd; rw [if_neg hng]; simp
            have hpn := nest_put NS6.out hkl N1.out (by rw [HGT.out]; exact HO5.out) HG5.out HA5.out
            refine ⟨i + 1, g6, cap6, (cs ++ [Value.slice (some ⟨W'.heap.size, 0, none⟩) 0 0]).set out.length (.slice (some ⟨g5, 0, none⟩) (([] : List Int).length + 1) cap5), by omega, ?_, by go_num, ?_⟩
            · rw [hstep, List.length_set, HL.out]
            · rw [hstep, List.length_set]
              refine ⟨(ext_grown (X6.out.alloc _) HG5.out (fun b hb => (N4.out.lt b hb).1)).setCell (by simpa using n7) _, by rw [hstep]; exact hpn⟩
          case measure => simp [intOf]; omega
    · go_wp2_with fail
      go_ret
      have : i = keys.length := by omega
      subst this
      exact ⟨_, cs, rfl, hr⟩
theorem gRun_bd (keys : List (List Val)) (hlen : keys.length ≤ 2000000) (k : Nat) : ∀ x ∈ (gRun (keyAt keys) keys.length).getD k [], -9223372036854775808 ≤ x ∧ x ≤ 9223372036854775807 := fun x hx => by
  obtain ⟨h1, h2, _⟩ := (gRun_ok (keyAt keys) keys.length).mem k x hx
  omega
theorem nest_vrel {St : Nat → Nat → Prop} {w w' : World} {base : Nat} {te ti : TypeId} {v : Value} {cs : List Value} {out : List (List Int)} (h : Nest w' base te ti 1 0 1 v cs (out.map cellsI)) (hs : ∀ b o, base ≤ b → b < w'.heap.size → St b o)
    (hb : ∀ k, ∀ x ∈ out.getD k [], -9223372036854775808 ≤ x ∧ x ≤ 9223372036854775807) (hl : out.length ≤ 9223372036854775807) (hl2 : ∀ k, (out.getD k []).length ≤ 9223372036854775807) : VRel En St w' v (.dat (U := Un) Ty.ints out) := by
  have ho := h.outer
  obtain ⟨_, ⟨rfl, h0⟩ | ⟨g, cap, cur, rfl, hge, _, hcap, _⟩⟩ := h.outer
  · have : out = [] := List.eq_nil_of_length_eq_zero (by simpa using h0)
    subst this
    exact .nil _ _ _
  · rw [List.length_map] at h hcap ⊢
    refine VRel.dat (U := Un) Ty.ints (out : List (Un.Den Ty.ints)) g 0 cap (fun i j => cs.getD i undef) ⟨hcap, hl⟩ (fun i j hi hj => ?_) (fun i hi j d hd => ?_)
    · have hj0 : j = 0 := by have : j < 1 := hj; omega
      subst hj0
      obtain ⟨u, n1, n2, n3, n4, n5, n6, n7, n8⟩ := nest_at h i hi
      have e : 0 + i * Un.sz Ty.ints + 0 = i := by show 0 + i * 1 + 0 = i; omega
      refine ⟨hs _ _ n7 n6, ?_⟩
      rw [e, n2, List.getD_eq_getElem?_getD, n1]; rfl
    · have hd' : ([.dat (U := Un) Ty.int (out[i]'hi)] : List (V Un))[j]? = some d := hd
      cases j with
      | zero =>
        simp at hd'; subst hd'
        obtain ⟨u, n1, n2, n3, n4, n5, n6, n7, n8⟩ := nest_at h i hi
        have e : out.getD i [] = out[i] := by rw [List.getD_eq_getElem?_getD, List.getElem?_eq_getElem hi]; rfl
        have e2 : cs.getD i undef = u := by rw [List.getD_eq_getElem?_getD, n1]; rfl
        show VRel En St w' (cs.getD i undef) _
        rw [e2, ← e]
        exact ints_vrel n4 (hb i) (hl2 i) (fun b o hb => hs _ _ (n4.lt b hb).1 (n4.lt b hb).2)
      | succ j => simp at hd'
def F_r33_Groups : FnC Un := fun args => match args with
  | [x0] => (dL .row x0).bind fun keys => some ([keys.length ≤ 2000000], [.c (.sl (U := Un) Ty.ints (r33_Groups keys) false)], [])
  | _ => none
theorem ok_r33_Groups : FnOK 9 F_r33_Groups := by
  intro args ob rs os h hob
  unfold F_r33_Groups at h
  split at h
  · simp only [Option.bind_eq_some_iff, Option.some.injEq, Prod.mk.injEq] at h
    obtain ⟨keys, e0, rfl, rfl, rfl⟩ := h
    obtain rfl := dL_eq e0
    have hlen : keys.length ≤ 2000000 := hob _ (List.mem_singleton.2 rfl)
    refine ⟨?_, hasBody_of Tryd.func9 (by kernel_rfl) (by kernel_rfl)⟩
    intro w St vs hbd hvs hld
    match vs, hvs with
    | [v0], ⟨h0, _⟩ =>
      obtain ⟨a, b, off, cap, kv, rfl, ha, hc⟩ := rows_cells h0
      refine (r33_walk keys a b off cap kv w hlen ha (fun i j W hx hi hj => ?_) (fun i hi => (hc i hi).2.1)).mono ?_
      · have hk := ext_keep hx hbd
        have := call_int ok_r03_Orders (args := [.d (.v (.dat (U := Un) Ty.val (keys.getD i []))), .d (.v (.dat (U := Un) Ty.val (keys.getD j [])))]) (k := .i64) (n := ordR (keys.getD i []) (keys.getD j [])) (vs := [kv i, kv j]) rfl (by simp) (St := St) (w := W) (fun b o hs => Nat.lt_of_lt_of_le (hbd b o hs) hx.size) ⟨(hc i hi).2.2.mono hk, (hc j hj).2.2.mono hk, trivial⟩ (hld.ext hx)
        exact this
      · rintro e w' ⟨v, cs, rfl, hR⟩
        have hg := gRun_len (keyAt keys) keys.length
        have hG := gRun_ok (keyAt keys) keys.length
        exact ⟨v, rfl, ret_dat hR.ext hbd (nest_vrel (w := w) hR.nest (fun b o h1 h2 => .inr ⟨h1, h2, by simp [Value.ownBlock]⟩) (gRun_bd keys hlen) (by show (gRun (keyAt keys) keys.length).length ≤ _; omega) (fun k => by have := GI.len _ hG k; show ((gRun (keyAt keys) keys.length).getD k []).length ≤ _; omega))⟩
  · simp at h
end
end Go.Proofs.YtfdnnfbbjiglcaaDoor.B
namespace Go.Proofs.YtfdnnfbbjiglcaaDoor.B
open Go Go.RowKit
set_option maxRecDepth 1000000
theorem contract_scalar {f : FuncId} {args : List (D Un)} {v : Value} (hv : oneC v = true)
    (h : ∀ (w : World) (vs : List Value), (∀ St, All2 (DRel Tryd.prog En St w) vs args → Calls Tryd.prog f vs.toArray w fun e w' => e = .returned v ∧ w' = w)) : Contract Tryd.prog En f args [.c (.s v)] [] := by
  intro w St vs hbd hvs hld
  refine (h w vs St hvs).mono ?_
  rintro e w' ⟨rfl, rfl⟩
  let gg : G := { β := fun _ => 0, lb := fun _ => False, ω := fun _ _ => none, tk := fun _ => (none, 0) }
  exact ⟨_, rfl, Ext.refl _, gg, fun _ h => h, fun b o x _ h => by simp [gg] at h, fun b o x h => by simp [gg] at h, ⟨rfl, hv⟩, fun k o h => by simp at h⟩
theorem drel_str {St : Nat → Nat → Prop} {w : World} {v : Value} {s : ByteArray} (h : DRel Tryd.prog En St w v (.d (.v (cs s)))) : v = .string s ∧ s.size ≤ 9223372036854775807 := by
  have h' : VRel En St w v (.s (.string s)) := h
  cases h' with | s _ h => exact ⟨rfl, oneC_str.1 h⟩
end Go.Proofs.YtfdnnfbbjiglcaaDoor.B
namespace Go.Proofs.YtfdnnfbbjiglcaaDoor.B
open Go Go.RowKit
set_option maxRecDepth 1000000
theorem compareString_any (a b : ByteArray) (w : World) :
    Calls Tryd.prog 51 #[.string a, .string b] w fun e w' => e = .returned (.int .i64 (Lib.compareBytes a.data.toList b.data.toList)) ∧ w' = w := by
  have mixed : Tryd.prog.follows .mixedOrders = true := by kernel_rfl
  go_enter Tryd.func51, Tryd.ntmps51
  go_wp2
  rw [run_callFunc_extern Tryd.func61 (by kernel_rfl) (by kernel_rfl) (by kernel_rfl) (e := Extern.BytealgCompare.compare) (by kernel_rfl), Lib.run_compareString]
  simp only [Result.andThen]
  rw [Oper.upon_value]
  go_wp2
  go_ret
  exact ⟨rfl, rfl⟩
theorem compareBytes_eq : ∀ (a b : List UInt8), Lib.compareBytes a b = cmpL a b
  | [], [] => rfl
  | [], _ :: _ => rfl
  | _ :: _, [] => rfl
  | x :: a, y :: b => by
    have hlt : ∀ p q : UInt8, (p < q) = ((p.toNat : Int) < q.toNat) := fun p q => by simp [UInt8.lt_iff_toNat_lt]
    simp only [Lib.compareBytes, cmpL, cmpI, hlt]
    by_cases h : x = y
    · subst h; simp [compareBytes_eq a b]
    · have hne : x.toNat ≠ y.toNat := fun e => h (UInt8.toNat_inj.1 e)
      rw [if_neg h]
      by_cases h1 : (x.toNat : Int) < y.toNat
      · rw [if_pos h1, if_pos h1]
      · rw [if_neg h1, if_neg h1, if_pos (by omega), if_pos (by omega)]
theorem cmpL_range : ∀ (a b : List UInt8), -1 ≤ cmpL a b ∧ cmpL a b ≤ 1
  | [], [] => by simp [cmpL]
  | [], _ :: _ => by simp [cmpL]
  | _ :: _, [] => by simp [cmpL]
  | x :: a, y :: b => by
    simp only [cmpL, cmpI]
    have := cmpL_range a b
    repeat' split
    all_goals omega
def F_internal_bytealg_CompareString : FnC Un := fun args => match args with
  | [x0, x1] => (dStr x0).bind fun a => (dStr x1).bind fun b => some ([], [.c (.s (.int .i64 (cmpS a b)))], [])
  | _ => none
theorem ok_internal_bytealg_CompareString : FnOK 51 F_internal_bytealg_CompareString := by
  intro args ob rs os h hob
  unfold F_internal_bytealg_CompareString at h
  split at h
  · rename_i x0 x1
    simp only [Option.bind_eq_some_iff, Option.some.injEq, Prod.mk.injEq] at h
    obtain ⟨s, e0, t, e1, rfl, rfl, rfl⟩ := h
    obtain rfl := dStr_eq e0
    obtain rfl := dStr_eq e1
    refine ⟨?_, hasBody_of Tryd.func51 (by kernel_rfl) (by kernel_rfl)⟩
    have hr := cmpL_range s.toList t.toList
    refine contract_scalar (oneC_i64.2 (by unfold cmpS; omega)) fun w vs St hvs => ?_
    match vs, hvs with
    | [v0, v1], ⟨h0, h1, _⟩ =>
      obtain ⟨rfl, -⟩ := drel_str h0
      obtain ⟨rfl, -⟩ := drel_str h1
      refine (compareString_any s t w).mono ?_
      rintro e w' ⟨rfl, rfl⟩
      refine ⟨?_, rfl⟩
      rw [compareBytes_eq]; unfold cmpS
      rw [ByteArray.toList_eq, ByteArray.toList_eq]
  · simp at h
end Go.Proofs.YtfdnnfbbjiglcaaDoor.B
namespace Go.Proofs.YtfdnnfbbjiglcaaDoor.B
open Go Go.RowKit
set_option maxRecDepth 100000
noncomputable section
attribute [local irreducible] awp ctxK itersK iterK retQ retGQ
def M_strings_Compare : Mc Un := mach (tbl [(51, F_internal_bytealg_CompareString)]) (tbl []) (tbl []) (tbl []) (tbl [])
def N_strings_Compare : Nat → NS := fun l => (look l []).getD ⟨[], [], [], [], [], false⟩
def A_strings_Compare (r : Int) : List (A Un) := [.c (.s (.int .i64 r))]
def O_strings_Compare (_r : Int) : List (Ob Un) := []
theorem strings_Compare_in (a : ByteArray) (b : ByteArray) (K : List (A Un) → List (Ob Un) → Prop) :
    awp M_strings_Compare N_strings_Compare (bodyOf Tryd.f35) (entry Tryd.f35.ntmps 0 [.d (.v (cs a)), .d (.v (cs b))]) (retQ M_strings_Compare Tryd.f35.results.toList [.d] K) =
(K (A_strings_Compare (cmpS a b)) (O_strings_Compare (cmpS a b))) := by kernel_rfl
def strings_Compare_fn (a : ByteArray) (b : ByteArray) : Option (Int) :=
  some (cmpS a b)
theorem strings_Compare_run {a : ByteArray} {b : ByteArray} {r : Int} (h : strings_Compare_fn a b = some r) : Runs (awp M_strings_Compare N_strings_Compare (bodyOf Tryd.f35) (entry Tryd.f35.ntmps 0 [.d (.v (cs a)), .d (.v (cs b))]) (retQ M_strings_Compare Tryd.f35.results.toList [.d] fun rs os => rs = A_strings_Compare r ∧ os = O_strings_Compare r)) := by
  constructor
  rw [strings_Compare_in a b (fun rs os => rs = A_strings_Compare r ∧ os = O_strings_Compare r)]
  unfold strings_Compare_fn at h
  cases h
  exact ⟨rfl, rfl⟩
def strings_Compare (a : ByteArray) (b : ByteArray) : Int :=
  (cmpS a b)
theorem strings_Compare_eq (a : ByteArray) (b : ByteArray) : strings_Compare_fn a b = some (strings_Compare a b) := by unfold strings_Compare_fn strings_Compare; repeat (first | rfl | split)
def F_strings_Compare : FnC Un := fun args => match args with
  | [x0, x1] => (dStr x0).bind fun a => (dStr x1).bind fun b => some ([], A_strings_Compare (strings_Compare a b), O_strings_Compare (strings_Compare a b))
  | _ => none
theorem ok_strings_Compare : FnOK 35 F_strings_Compare := by
  intro args ob rs os h hob
  unfold F_strings_Compare at h
  split at h
  · simp only [Option.bind_eq_some_iff, Option.some.injEq, Prod.mk.injEq] at h
    obtain ⟨a, e0, b, e1, rfl, rfl, rfl⟩ := h
    obtain rfl := dStr_eq e0
    obtain rfl := dStr_eq e1
    exact ⟨fn_contract (M := M_strings_Compare) rfl (tbl_ok (l1 := [(51, F_internal_bytealg_CompareString)]) (l2 := []) (l3 := []) (l4 := []) (l5 := []) ⟨ok_internal_bytealg_CompareString, trivial⟩ trivial trivial trivial trivial) Tryd.func35 (by kernel_rfl) N_strings_Compare 0 [.d] (fun hwf => strings_Compare_run (strings_Compare_eq a b)), hasBody_of Tryd.func35 (by kernel_rfl) (by kernel_rfl)⟩
  · simp at h
def M_cmp_isNaN : Mc Un := mach (tbl []) (tbl []) (tbl []) (tbl []) (tbl [])
def N_cmp_isNaN : Nat → NS := fun l => (look l []).getD ⟨[], [], [], [], [], false⟩
def A_cmp_isNaN (r : Bool) : List (A Un) := [.c (.s (.bool r))]
def O_cmp_isNaN (_r : Bool) : List (Ob Un) := []
theorem cmp_isNaN_in (x : Int) (K : List (A Un) → List (Ob Un) → Prop) :
    awp M_cmp_isNaN N_cmp_isNaN (bodyOf Tryd.f50) (entry Tryd.f50.ntmps 0 [.d (.v (.s (.int .i64 x)))]) (retQ M_cmp_isNaN Tryd.f50.results.toList [.d] K) =
(K (A_cmp_isNaN (x != x)) (O_cmp_isNaN (x != x))) := by kernel_rfl
def cmp_isNaN_fn (x : Int) : Option (Bool) :=
  some (x != x)
theorem cmp_isNaN_run {x : Int} {r : Bool} (h : cmp_isNaN_fn x = some r) : Runs (awp M_cmp_isNaN N_cmp_isNaN (bodyOf Tryd.f50) (entry Tryd.f50.ntmps 0 [.d (.v (.s (.int .i64 x)))]) (retQ M_cmp_isNaN Tryd.f50.results.toList [.d] fun rs os => rs = A_cmp_isNaN r ∧ os = O_cmp_isNaN r)) := by
  constructor
  rw [cmp_isNaN_in x (fun rs os => rs = A_cmp_isNaN r ∧ os = O_cmp_isNaN r)]
  unfold cmp_isNaN_fn at h
  cases h
  exact ⟨rfl, rfl⟩
def cmp_isNaN (x : Int) : Bool :=
  (x != x)
theorem cmp_isNaN_eq (x : Int) : cmp_isNaN_fn x = some (cmp_isNaN x) := by unfold cmp_isNaN_fn cmp_isNaN; repeat (first | rfl | split)
def F_cmp_isNaN : FnC Un := fun args => match args with
  | [x0] => (dI .i64 x0).bind fun x => some ([], A_cmp_isNaN (cmp_isNaN x), O_cmp_isNaN (cmp_isNaN x))
  | _ => none
theorem ok_cmp_isNaN : FnOK 50 F_cmp_isNaN := by
  intro args ob rs os h hob
  unfold F_cmp_isNaN at h
  split at h
  · simp only [Option.bind_eq_some_iff, Option.some.injEq, Prod.mk.injEq] at h
    obtain ⟨x, e0, rfl, rfl, rfl⟩ := h
    obtain rfl := dI_eq e0
    exact ⟨fn_contract (M := M_cmp_isNaN) rfl (tbl_ok (l1 := []) (l2 := []) (l3 := []) (l4 := []) (l5 := []) trivial trivial trivial trivial trivial) Tryd.func50 (by kernel_rfl) N_cmp_isNaN 0 [.d] (fun hwf => cmp_isNaN_run (cmp_isNaN_eq x)), hasBody_of Tryd.func50 (by kernel_rfl) (by kernel_rfl)⟩
  · simp at h
def M_cmp_Compare : Mc Un := mach (tbl [(50, F_cmp_isNaN)]) (tbl []) (tbl []) (tbl []) (tbl [])
def N_cmp_Compare : Nat → NS := fun l => (look l []).getD ⟨[], [], [], [], [], false⟩
def A_cmp_Compare (r : Int) : List (A Un) := [.c (.s (.int .i64 r))]
def O_cmp_Compare (_r : Int) : List (Ob Un) := []
theorem cmp_Compare_in (x : Int) (y : Int) (K : List (A Un) → List (Ob Un) → Prop) :
    awp M_cmp_Compare N_cmp_Compare (bodyOf Tryd.f34) (entry Tryd.f34.ntmps 0 [.d (.v (.s (.int .i64 x))), .d (.v (.s (.int .i64 y)))]) (retQ M_cmp_Compare Tryd.f34.results.toList [.d] K) =
(cnd (cmp_isNaN x)
 (cnd (cmp_isNaN y)
  (K (A_cmp_Compare ((0 : Int))) (O_cmp_Compare ((0 : Int))))
  (K (A_cmp_Compare ((-1 : Int))) (O_cmp_Compare ((-1 : Int)))))
 (cnd (cmp_isNaN y)
  (K (A_cmp_Compare ((1 : Int))) (O_cmp_Compare ((1 : Int))))
  (cnd (decide (x < y))
   (K (A_cmp_Compare ((-1 : Int))) (O_cmp_Compare ((-1 : Int))))
   (cnd (decide (x > y))
    (K (A_cmp_Compare ((1 : Int))) (O_cmp_Compare ((1 : Int))))
    (K (A_cmp_Compare ((0 : Int))) (O_cmp_Compare ((0 : Int)))))))) := by kernel_rfl
def cmp_Compare_fn (x : Int) (y : Int) : Option (Int) :=
  if (cmp_isNaN x) = true then
   if (cmp_isNaN y) = true then
    some ((0 : Int))
   else
    some ((-1 : Int))
  else
   if (cmp_isNaN y) = true then
    some ((1 : Int))
   else
    if (decide (x < y)) = true then
     some ((-1 : Int))
    else
     if (decide (x > y)) = true then
      some ((1 : Int))
     else
      some ((0 : Int))
theorem cmp_Compare_run {x : Int} {y : Int} {r : Int} (h : cmp_Compare_fn x y = some r) : Runs (awp M_cmp_Compare N_cmp_Compare (bodyOf Tryd.f34) (entry Tryd.f34.ntmps 0 [.d (.v (.s (.int .i64 x))), .d (.v (.s (.int .i64 y)))]) (retQ M_cmp_Compare Tryd.f34.results.toList [.d] fun rs os => rs = A_cmp_Compare r ∧ os = O_cmp_Compare r)) := by
  constructor
  rw [cmp_Compare_in x y (fun rs os => rs = A_cmp_Compare r ∧ os = O_cmp_Compare r)]
  unfold cmp_Compare_fn at h
  rcases ite_some h with ⟨c1, h2⟩ | ⟨c1, h2⟩
  · rcases ite_some h2 with ⟨c3, h4⟩ | ⟨c3, h4⟩
    · cases h4
      exact (cnd_t c1 (cnd_t c3 ⟨rfl, rfl⟩))
    · cases h4
      exact (cnd_t c1 (cnd_f (bfalse c3) ⟨rfl, rfl⟩))
  · rcases ite_some h2 with ⟨c5, h6⟩ | ⟨c5, h6⟩
    · cases h6
      exact (cnd_f (bfalse c1) (cnd_t c5 ⟨rfl, rfl⟩))
    · rcases ite_some h6 with ⟨c7, h8⟩ | ⟨c7, h8⟩
      · cases h8
        exact (cnd_f (bfalse c1) (cnd_f (bfalse c5) (cnd_t c7 ⟨rfl, rfl⟩)))
      · rcases ite_some h8 with ⟨c9, h10⟩ | ⟨c9, h10⟩
        · cases h10
          exact (cnd_f (bfalse c1) (cnd_f (bfalse c5) (cnd_f (bfalse c7) (cnd_t c9 ⟨rfl, rfl⟩))))
        · cases h10
          exact (cnd_f (bfalse c1) (cnd_f (bfalse c5) (cnd_f (bfalse c7) (cnd_f (bfalse c9) ⟨rfl, rfl⟩))))
def cmp_Compare (x : Int) (y : Int) : Int :=
  if (cmp_isNaN x) = true then
   if (cmp_isNaN y) = true then
    ((0 : Int))
   else
    ((-1 : Int))
  else
   if (cmp_isNaN y) = true then
    ((1 : Int))
   else
    if (decide (x < y)) = true then
     ((-1 : Int))
    else
     if (decide (x > y)) = true then
      ((1 : Int))
     else
      ((0 : Int))
theorem cmp_Compare_eq (x : Int) (y : Int) : cmp_Compare_fn x y = some (cmp_Compare x y) := by unfold cmp_Compare_fn cmp_Compare; repeat (first | rfl | split)
def F_cmp_Compare : FnC Un := fun args => match args with
  | [x0, x1] => (dI .i64 x0).bind fun x => (dI .i64 x1).bind fun y => some ([], A_cmp_Compare (cmp_Compare x y), O_cmp_Compare (cmp_Compare x y))
  | _ => none
theorem ok_cmp_Compare : FnOK 34 F_cmp_Compare := by
  intro args ob rs os h hob
  unfold F_cmp_Compare at h
  split at h
  · simp only [Option.bind_eq_some_iff, Option.some.injEq, Prod.mk.injEq] at h
    obtain ⟨x, e0, y, e1, rfl, rfl, rfl⟩ := h
    obtain rfl := dI_eq e0
    obtain rfl := dI_eq e1
    exact ⟨fn_contract (M := M_cmp_Compare) rfl (tbl_ok (l1 := [(50, F_cmp_isNaN)]) (l2 := []) (l3 := []) (l4 := []) (l5 := []) ⟨ok_cmp_isNaN, trivial⟩ trivial trivial trivial trivial) Tryd.func34 (by kernel_rfl) N_cmp_Compare 0 [.d] (fun hwf => cmp_Compare_run (cmp_Compare_eq x y)), hasBody_of Tryd.func34 (by kernel_rfl) (by kernel_rfl)⟩
  · simp at h
@[simp] theorem cmp_Compare_spec (x y : Int) : cmp_Compare x y = cmpI x y := by
  unfold cmp_Compare cmp_isNaN cmpI
  simp
@[simp] theorem strings_Compare_spec (a b : ByteArray) : strings_Compare a b = cmpS a b := rfl
def M_cmp_Or : Mc Un := mach (tbl []) (tbl []) (tbl []) (tbl []) (tbl [])
def N_cmp_Or : Nat → NS := fun l => (look l [(3, { ts := [false, false, true, true, false, false, true, true, true, false, false, false, false, false, false, false, false, false], bs := [false, false, false, false, false, false, false, false, false, false, false, false, false, false, false, false, false, false], nm := [], gb := [], gs := [] })]).getD ⟨[], [], [], [], [], false⟩
def A_cmp_Or (r : Int) : List (A Un) := [.c (.s (.int .i64 r))]
def O_cmp_Or (_r : Int) : List (Ob Un) := []
def cmp_Or_s3 (vals : List Int) (v0 : Int) : S Un := (st 18 18 72 0 [(2, AV.one (A.c (C.s (Value.int IntKind.i64 (0 : Int))))), (3, AV.one (A.c (C.s (Value.int IntKind.i64 (0 : Int))))), (6, AV.one (A.c (C.sl Ty.int vals false))), (7, AV.one (A.c (C.s (Value.int IntKind.i64 (↑vals.length : Int))))), (8, AV.one (A.c (C.s (Value.int IntKind.i64 v0))))] [] [])
def cmp_Or_e3_ret (vals : List Int) (v0 : Int) (v1 : Int) : S Un := (st 18 18 72 0 [(2, AV.one (A.c (C.s (Value.int IntKind.i64 v1)))), (3, AV.one (A.c (C.s (Value.int IntKind.i64 (0 : Int))))), (6, AV.one (A.c (C.sl Ty.int vals false))), (7, AV.one (A.c (C.s (Value.int IntKind.i64 (↑vals.length : Int))))), (8, AV.one (A.c (C.s (Value.int IntKind.i64 v0))))] [] [])
theorem cmp_Or_in (vals : List Int) (K : List (A Un) → List (Ob Un) → Prop) :
    awp M_cmp_Or N_cmp_Or (bodyOf Tryd.f33) (entry Tryd.f33.ntmps 0 [.d (.v (.dat (U := Un) Ty.int vals))]) (retQ M_cmp_Or Tryd.f33.results.toList [.d] K) =
(itersK (N_cmp_Or 3) (awp M_cmp_Or N_cmp_Or (sub (bodyOf Tryd.f33) [1, 1, 0, 1, 2, 2])) (ctxK M_cmp_Or N_cmp_Or (bodyOf Tryd.f33) [1, 1, 0, 1, 2] (retQ M_cmp_Or Tryd.f33.results.toList [.d] K)) (cmp_Or_s3 vals (0 : Int))) := by kernel_rfl
theorem cmp_Or_l3 (vals : List Int) (v0 : Int) (k : Nat) (Q : Exit → S Un → Prop) :
    iterK (N_cmp_Or 3) (awp M_cmp_Or N_cmp_Or (sub (bodyOf Tryd.f33) [1, 1, 0, 1, 2, 2])) Q (k + 1) (cmp_Or_s3 vals v0) =
(cnd (decide (v0 < (↑vals.length : Int)))
 (((0 : Int) ≤ v0 ∧ v0 < (↑vals.length : Int)) ∧
 (cnd (vals.getD v0.toNat (0 : Int) != (0 : Int))
  (Q .ret (cmp_Or_e3_ret vals v0 (vals.getD v0.toNat (0 : Int))))
  (iterK (N_cmp_Or 3) (awp M_cmp_Or N_cmp_Or (sub (bodyOf Tryd.f33) [1, 1, 0, 1, 2, 2])) Q k (cmp_Or_s3 vals (IntKind.i64.wrap (v0 + (1 : Int)))))))
 (Q (.exit 0) (cmp_Or_s3 vals v0))) := by kernel_rfl
theorem cmp_Or_a3_ret (vals : List Int) (v0 : Int) (v1 : Int) (K : List (A Un) → List (Ob Un) → Prop) :
    ctxK M_cmp_Or N_cmp_Or (bodyOf Tryd.f33) [1, 1, 0, 1, 2] (retQ M_cmp_Or Tryd.f33.results.toList [.d] K) .ret (cmp_Or_e3_ret vals v0 v1) =
(K (A_cmp_Or (v1)) (O_cmp_Or (v1))) := by kernel_rfl
theorem cmp_Or_a3_x0 (vals : List Int) (v0 : Int) (K : List (A Un) → List (Ob Un) → Prop) :
    ctxK M_cmp_Or N_cmp_Or (bodyOf Tryd.f33) [1, 1, 0, 1, 2] (retQ M_cmp_Or Tryd.f33.results.toList [.d] K) (.exit 0) (cmp_Or_s3 vals v0) =
(K (A_cmp_Or ((0 : Int))) (O_cmp_Or ((0 : Int)))) := by kernel_rfl
def cmp_Or_S3 (vals : List Int) (v : Int) : Option ((Int) ⊕ ((Int × Int) ⊕ (Int))) :=
  if (decide (v < (↑vals.length : Int))) = true then
   if (0 : Int) ≤ v ∧ v < (↑vals.length : Int) then
    if (vals.getD v.toNat (0 : Int) != (0 : Int)) = true then
     some (.inr (.inl (v, (vals.getD v.toNat (0 : Int)))))
    else
     some (.inl (IntKind.i64.wrap (v + (1 : Int))))
   else none
  else
   some (.inr (.inr v))
def cmp_Or_L3 (vals : List Int) (v : Int) : Option ((Int × Int) ⊕ (Int)) := loopO (cmp_Or_S3 vals) v
theorem cmp_Or_L3_eq (vals : List Int) (v : Int) : cmp_Or_L3 vals v = stepB (cmp_Or_L3 vals) (cmp_Or_S3 vals v) := loopO_eq _ _
def cmp_Or_Q3 (vals : List Int) (r : (Int × Int) ⊕ (Int)) (Q : Exit → S Un → Prop) : Prop := match r with | .inl x => Q .ret (cmp_Or_e3_ret vals x.1 x.2) | .inr x => Q (.exit 0) (cmp_Or_s3 vals x)
theorem cmp_Or_Q3_ret {vals : List Int} {x : Int × Int} {Q : Exit → S Un → Prop} (h : Q .ret (cmp_Or_e3_ret vals x.1 x.2)) : cmp_Or_Q3 vals (.inl x) Q := h
theorem cmp_Or_Q3_x0 {vals : List Int} {x : Int} {Q : Exit → S Un → Prop} (h : Q (.exit 0) (cmp_Or_s3 vals x)) : cmp_Or_Q3 vals (.inr x) Q := h
theorem cmp_Or_L3_run {vals : List Int} {v : Int} {r : (Int × Int) ⊕ (Int)} (h : cmp_Or_L3 vals v = some r) (Q : Exit → S Un → Prop) (hQ : cmp_Or_Q3 vals r Q) : itersK (N_cmp_Or 3) (awp M_cmp_Or N_cmp_Or (sub (bodyOf Tryd.f33) [1, 1, 0, 1, 2, 2])) Q (cmp_Or_s3 vals v) := by
  refine @loop_run _ _ (cmp_Or_S3 vals) (fun v => itersK (N_cmp_Or 3) (awp M_cmp_Or N_cmp_Or (sub (bodyOf Tryd.f33) [1, 1, 0, 1, 2, 2])) Q (cmp_Or_s3 vals v)) (fun r => cmp_Or_Q3 vals r Q) ?_ v r h hQ
  intro v o h hI
  unfold cmp_Or_S3 at h
  rcases ite_some h with ⟨c1, h2⟩ | ⟨c1, h2⟩
  · obtain ⟨c3, h4⟩ := ob_some h2
    rcases ite_some h4 with ⟨c5, h6⟩ | ⟨c5, h6⟩
    · cases h6
      exact itersK_mk 1 (mpr (cmp_Or_l3 vals v 0 Q) (cnd_t c1 (And.intro c3 (cnd_t c5 hI))))
    · cases h6
      obtain ⟨k7, hk8⟩ := itersK_get hI
      exact itersK_mk (k7 + 1) (mpr (cmp_Or_l3 vals v k7 Q) (cnd_t c1 (And.intro c3 (cnd_f (bfalse c5) hk8))))
  · cases h2
    exact itersK_mk 1 (mpr (cmp_Or_l3 vals v 0 Q) (cnd_f (bfalse c1) hI))
def cmp_Or_fn (vals : List Int) : Option (Int) :=
  (cmp_Or_L3 vals (0 : Int)) >>= fun o9 => match o9 with
   | .inl o10 =>
     some (o10.2)
   | .inr o11 =>
     some ((0 : Int))
theorem cmp_Or_run {vals : List Int} {r : Int} (h : cmp_Or_fn vals = some r) : Runs (awp M_cmp_Or N_cmp_Or (bodyOf Tryd.f33) (entry Tryd.f33.ntmps 0 [.d (.v (.dat (U := Un) Ty.int vals))]) (retQ M_cmp_Or Tryd.f33.results.toList [.d] fun rs os => rs = A_cmp_Or r ∧ os = O_cmp_Or r)) := by
  constructor
  rw [cmp_Or_in vals (fun rs os => rs = A_cmp_Or r ∧ os = O_cmp_Or r)]
  unfold cmp_Or_fn at h
  obtain ⟨o12, ho13, h14⟩ := bind_some h
  rcases o12 with o15 | o16
  · cases h14
    exact (cmp_Or_L3_run ho13 _ (cmp_Or_Q3_ret (mpr (cmp_Or_a3_ret vals o15.1 o15.2 _) ⟨rfl, rfl⟩)))
  · cases h14
    exact (cmp_Or_L3_run ho13 _ (cmp_Or_Q3_x0 (mpr (cmp_Or_a3_x0 vals o16 _) ⟨rfl, rfl⟩)))
def orL : List Int → Int
  | [] => 0
  | x :: r => if x = 0 then orL r else x
def cmp_Or (vals : List Int) : Int := orL vals
@[simp] theorem cmp_Or_eq (vals : List Int) : cmp_Or vals = orL vals := by unfold cmp_Or; rfl
theorem cmp_Or_loop (vals : List Int) (h : WL .int vals) : ∀ (r : List Int) (i : Nat), vals.drop i = r →
    ∃ o, cmp_Or_L3 vals i = some o ∧ (match o with | .inl o => o.2 | .inr _ => 0) = orL r := by
  intro r
  induction r with
  | nil =>
    intro i h1
    have e1 := drop_nil h1
    have hn : ¬ ((i : Int) < vals.length) := by omega
    exact ⟨.inr i, by rw [cmp_Or_L3_eq, cmp_Or_S3]; simp [hn], rfl⟩
  | cons x r ih =>
    intro i h1
    obtain ⟨a1, a2, a3, _⟩ := drop_cons h1
    have hp : (i : Int) < vals.length := by omega
    have hi : (0 : Int) ≤ i := by omega
    rw [cmp_Or_L3_eq, cmp_Or_S3]
    simp only [hp, hi, decide_true, if_true, and_self, Int.toNat_natCast, a2, bne_iff_ne, ne_eq, ite_not, orL]
    by_cases hx : x = 0
    · rw [if_pos hx, if_pos hx, wrap_succ a1 h.len, stepB_inl]; exact ih (i + 1) a3
    · exact ⟨_, by rw [if_neg hx, stepB_inr], by rw [if_neg hx]⟩
theorem cmp_Or_spec (vals : List Int) (h : WL .int vals) : cmp_Or_fn vals = some (cmp_Or vals) := by
  obtain ⟨o, ho, e⟩ := cmp_Or_loop vals h _ 0 rfl
  unfold cmp_Or_fn cmp_Or
  simp only [List.drop_zero] at e
  rw [← e]
  have ho' : cmp_Or_L3 vals 0 = some o := ho
  rw [ho']
  cases o <;> rfl
def F_cmp_Or : FnC Un := fun args => match args with
  | [x0] => (dL .int x0).bind fun vals => some ([], A_cmp_Or (cmp_Or vals), O_cmp_Or (cmp_Or vals))
  | _ => none
theorem ok_cmp_Or : FnOK 33 F_cmp_Or := by
  intro args ob rs os h hob
  unfold F_cmp_Or at h
  split at h
  · simp only [Option.bind_eq_some_iff, Option.some.injEq, Prod.mk.injEq] at h
    obtain ⟨vals, e0, rfl, rfl, rfl⟩ := h
    obtain rfl := dL_eq e0
    exact ⟨fn_contract (M := M_cmp_Or) rfl (tbl_ok (l1 := []) (l2 := []) (l3 := []) (l4 := []) (l5 := []) trivial trivial trivial trivial trivial) Tryd.func33 (by kernel_rfl) N_cmp_Or 0 [.d] (fun hwf => cmp_Or_run (cmp_Or_spec vals (wfArg hwf (a := .d (.v (.dat (U := Un) Ty.int vals))) (List.mem_of_getElem? (i := 0) rfl)))), hasBody_of Tryd.func33 (by kernel_rfl) (by kernel_rfl)⟩
  · simp at h
end
end Go.Proofs.YtfdnnfbbjiglcaaDoor.B
namespace Go.Proofs.YtfdnnfbbjiglcaaDoor.B
open Go Go.RowKit
set_option maxRecDepth 100000
noncomputable section
attribute [local irreducible] awp ctxK itersK iterK retQ retGQ
def M_value_Order : Mc Un := mach (tbl [(34, F_cmp_Compare), (35, F_strings_Compare), (33, F_cmp_Or)]) (tbl []) (tbl []) (tbl []) (tbl [])
def N_value_Order : Nat → NS := fun l => (look l []).getD ⟨[], [], [], [], [], false⟩
def A_value_Order (r : Int) : List (A Un) := [.c (.s (.int .i64 r))]
def O_value_Order (_r : Int) : List (Ob Un) := []
theorem value_Order_in (a : Val) (b : Val) (K : List (A Un) → List (Ob Un) → Prop) :
    awp M_value_Order N_value_Order (bodyOf Tryd.f24) (entry Tryd.f24.ntmps 0 [.d (.agg (enc Ty.val a)), .d (.agg (enc Ty.val b))]) (retQ M_value_Order Tryd.f24.results.toList [.d] K) =
(K (A_value_Order (cmp_Or [cmp_Compare a.kind b.kind, cmp_Compare a.n b.n, strings_Compare a.s b.s])) (O_value_Order (cmp_Or [cmp_Compare a.kind b.kind, cmp_Compare a.n b.n, strings_Compare a.s b.s]))) := by kernel_rfl
def value_Order_fn (a : Val) (b : Val) : Option (Int) :=
  some (cmp_Or [cmp_Compare a.kind b.kind, cmp_Compare a.n b.n, strings_Compare a.s b.s])
theorem value_Order_run {a : Val} {b : Val} {r : Int} (h : value_Order_fn a b = some r) : Runs (awp M_value_Order N_value_Order (bodyOf Tryd.f24) (entry Tryd.f24.ntmps 0 [.d (.agg (enc Ty.val a)), .d (.agg (enc Ty.val b))]) (retQ M_value_Order Tryd.f24.results.toList [.d] fun rs os => rs = A_value_Order r ∧ os = O_value_Order r)) := by
  constructor
  rw [value_Order_in a b (fun rs os => rs = A_value_Order r ∧ os = O_value_Order r)]
  unfold value_Order_fn at h
  cases h
  exact ⟨rfl, rfl⟩
def value_Order (a b : Val) : Int := ordV a b
@[simp] theorem value_Order_eq (a b : Val) : value_Order a b = ordV a b := by unfold value_Order; rfl
theorem value_Order_spec (a b : Val) (_ha : WS .val a) (_hb : WS .val b) : value_Order_fn a b = some (value_Order a b) := by
  unfold value_Order_fn value_Order ordV
  simp only [cmp_Or_eq, cmp_Compare_spec, strings_Compare_spec, orL, cmpI_zero]
  by_cases h1 : a.kind = b.kind
  · by_cases h2 : a.n = b.n
    · simp only [h1, h2, if_true]; split
      · rename_i h; rw [h]
      · rfl
    · simp [h1, h2]
  · simp [h1]
def F_value_Order : FnC Un := fun args => match args with
  | [x0, x1] => (dS .val x0).bind fun a => (dS .val x1).bind fun b => some ([], A_value_Order (value_Order a b), O_value_Order (value_Order a b))
  | _ => none
theorem ok_value_Order : FnOK 24 F_value_Order := by
  intro args ob rs os h hob
  unfold F_value_Order at h
  split at h
  · simp only [Option.bind_eq_some_iff, Option.some.injEq, Prod.mk.injEq] at h
    obtain ⟨a, e0, b, e1, rfl, rfl, rfl⟩ := h
    obtain rfl := dS_eq e0
    obtain rfl := dS_eq e1
    exact ⟨fn_contract (M := M_value_Order) rfl (tbl_ok (l1 := [(34, F_cmp_Compare), (35, F_strings_Compare), (33, F_cmp_Or)]) (l2 := []) (l3 := []) (l4 := []) (l5 := []) ⟨ok_cmp_Compare, ok_strings_Compare, ok_cmp_Or, trivial⟩ trivial trivial trivial trivial) Tryd.func24 (by kernel_rfl) N_value_Order 0 [.d] (fun hwf => value_Order_run (value_Order_spec a b (wfArg hwf (a := .d (.agg (enc Ty.val a))) (List.mem_of_getElem? (i := 0) rfl)) (wfArg hwf (a := .d (.agg (enc Ty.val b))) (List.mem_of_getElem? (i := 1) rfl)))), hasBody_of Tryd.func24 (by kernel_rfl) (by kernel_rfl)⟩
  · simp at h
def V_value_Order : FV Un := fun args => match args with
  | [x0, x1] => (dS .val (.d x0)).bind fun a => (dS .val (.d x1)).bind fun b => some ([], [.v (.s (.int .i64 (value_Order a b)))])
  | _ => none
theorem okV_value_Order : FvOK 24 V_value_Order := by
  refine ⟨hasBody_of Tryd.func24 (by kernel_rfl) (by kernel_rfl), fun args ob rs h hob => ?_⟩
  unfold V_value_Order at h
  split at h
  · simp only [Option.bind_eq_some_iff, Option.some.injEq, Prod.mk.injEq] at h
    obtain ⟨a, e0, b, e1, rfl, rfl⟩ := h
    simp only [List.map_cons, List.map_nil]
    rw [dS_eq e0]
    rw [dS_eq e1]
    refine Contract.data (ok_value_Order _ ([]) _ _ (?_ : F_value_Order _ = some _) (by simp)).1
    unfold F_value_Order
    simp only [dSk_mk]
    rfl
  · simp at h
theorem V_value_Order_eq : V_value_Order = fv_S_val_S_val_to_i_i64 ordV := by
  have : value_Order = ordV := by funext a b; exact value_Order_eq a b
  rw [← this]; rfl
end
end Go.Proofs.YtfdnnfbbjiglcaaDoor.B
