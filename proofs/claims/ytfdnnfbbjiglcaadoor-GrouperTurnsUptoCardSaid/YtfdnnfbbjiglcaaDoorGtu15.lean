/- Part 15 of the proof: Lgroups Lord Lsortf Lput. -/
import Derived.Deep.RegionHeld3
import Derived.Sort.Grow
import Derived.Shelf.SlSortCmp.Whole1
import Derived.Shelf.SlSortCmp.NoneTotal
import Derived.Test.YtfdnnfbbjiglcaaDoorGtu14
namespace Go.Proofs.YtfdnnfbbjiglcaaDoor.B
open Go Go.RowKit Go.Shelf Go.Maps
set_option maxRecDepth 1000000
set_option linter.unusedVariables false
noncomputable section
def keysOK (keys : List (List Val)) : Prop := ∀ r ∈ keys, r.length ≤ 1000000000 ∧ (keyT r).length ≤ 1000000000000
structure TieG (key : Int → List Val) (out : List (List Int)) (D : DataW Unit) : Prop where
  is : IsMap D
  has : ∀ x : List Val, x.length ≤ 1000000000 → (keyT x).length ≤ 1000000000000 → Maps.has D (klOf x) = decide (gAt key x out < out.length)
  at_ : ∀ x : List Val, x.length ≤ 1000000000 → (keyT x).length ≤ 1000000000000 → gAt key x out < out.length → D.atKey (klOf x) (.lit (.int .i64 0)) = .lit (.int .i64 (gAt key x out))
theorem gAt_snoc {key : Int → List Val} {out : List (List Int)} {x : List Val} (i : Int) : gAt key x (out ++ [[i]]) = if gAt key x out < out.length then gAt key x out else if key i = x then out.length else out.length + 1 := by
  unfold gAt
  rw [List.findIdx_append]
  simp only [List.findIdx_singleton, List.headD_cons]
  by_cases h1 : List.findIdx (fun g => decide (key (g.headD 0) = x)) out < out.length
  · rw [if_pos h1, if_pos h1]
  · rw [if_neg h1, if_neg h1]
    by_cases h2 : key i = x <;> simp [h2]; omega
theorem gAt_app {key : Int → List Val} {out : List (List Int)} {x : List Val} {k : Nat} {i : Int} (hk : k < out.length) (hne : out.getD k [] ≠ []) : gAt key x (out.set k (out.getD k [] ++ [i])) = gAt key x out := by
  unfold gAt
  have hm : (out.set k (out.getD k [] ++ [i])).map (fun g => decide (key (g.headD 0) = x)) = out.map (fun g => decide (key (g.headD 0) = x)) := by
    apply List.ext_getElem?
    intro j
    rw [List.getElem?_map, List.getElem?_map, List.getElem?_set]
    by_cases e : k = j
    · subst e
      rw [if_pos rfl, if_pos hk, List.getElem?_eq_getElem hk]
      have : out.getD k [] = out[k] := by rw [List.getD_eq_getElem?_getD, List.getElem?_eq_getElem hk]; rfl
      rw [this] at hne ⊢
      cases hc : out[k] with
      | nil => exact (hne hc).elim
      | cons a r => rfl
    · rw [if_neg e]
  have key2 : ∀ l : List (List Int), l.findIdx (fun g => decide (key (g.headD 0) = x)) = (l.map fun g => decide (key (g.headD 0) = x)).findIdx id := fun l => by rw [List.findIdx_map]; rfl
  rw [key2, key2, hm]
structure RG (w : World) (keys : List (List Val)) (i : Nat) (v : Value) (cs : List Value) (D : DataW Unit) (wr : World) : Prop where
  ext : Ext w wr
  nest : Nest wr (w.heap.size + 1) 30 3 1 0 1 v cs ((gRun (keyAt keys) i).map cellsI)
  own : wr.ownsMap Tryd.prog 39 (plainElem Tryd.prog 3) w.heap.size i D
  tie : TieG (keyAt keys) (gRun (keyAt keys) i) D
  hs : w.heap.size + 1 ≤ wr.heap.size
theorem TieG.app {key : Int → List Val} {out : List (List Int)} {D : DataW Unit} (h : TieG key out D) {k : Nat} {i : Int} (hk : k < out.length) (hne : out.getD k [] ≠ []) : TieG key (out.set k (out.getD k [] ++ [i])) D :=
  ⟨h.is, fun x h1 h2 => by rw [gAt_app hk hne, List.length_set]; exact h.has x h1 h2, fun x h1 h2 h3 => by rw [gAt_app hk hne, List.length_set] at h3; rw [gAt_app hk hne]; exact h.at_ x h1 h2 h3⟩
theorem TieG.push {key : Int → List Val} {out : List (List Int)} {D : DataW Unit} (h : TieG key out D) {x : List Val} {i : Int} (h1 : x.length ≤ 1000000000) (h2 : (keyT x).length ≤ 1000000000000) (hx : key i = x) (hg : ¬ gAt key x out < out.length) (hi : IsMap (D.put (klOf x) (.lit (.int .i64 out.length)))) :
    TieG key (out ++ [[i]]) (D.put (klOf x) (.lit (.int .i64 out.length))) := by
  have hle : ∀ y, gAt key y out ≤ out.length := fun y => List.findIdx_le_length
  refine ⟨hi, fun y y1 y2 => ?_, fun y y1 y2 hlt => ?_⟩
  · rw [gAt_snoc, List.length_append, List.length_singleton]
    by_cases e : y = x
    · subst e
      rw [has_put_same h.is (klOf_is h1 h2), if_neg hg, if_pos hx, decide_eq_true (by omega)]
    · rw [has_put_other (fun e2 => e (klOf_inj y1 y2 h1 h2 e2)), h.has y y1 y2]
      have hl := hle y
      by_cases h3 : gAt key y out < out.length
      · rw [if_pos h3, decide_eq_true h3, decide_eq_true (by omega)]
      · rw [if_neg h3, if_neg (fun e2 => e (e2.symm.trans hx)), decide_eq_false h3, decide_eq_false (by omega)]
  · rw [gAt_snoc] at hlt ⊢
    rw [List.length_append, List.length_singleton] at hlt
    by_cases e : y = x
    · subst e
      rw [if_neg hg, if_pos hx, atKey_put_same h.is (klOf_is h1 h2)]
    · rw [atKey_put_other (fun e2 => e (klOf_inj y1 y2 h1 h2 e2))]
      by_cases h3 : gAt key y out < out.length
      · rw [if_pos h3]; exact h.at_ y y1 y2 h3
      · rw [if_neg h3, if_neg (fun e2 => e (e2.symm.trans hx))] at hlt
        omega
theorem nest_newN {w w6 : World} {base : Nat} {te ti : TypeId} {cp g6 cp6 : Nat} {g : Option Addr} {cs : List Value} {out : List (List Int)} (h : Nest w base te ti 1 0 1 (.slice g out.length cp) cs (out.map cellsI)) {o2 : Obj}
    (ho : w6.ownsRow base te 1 (.slice (some ⟨g6, 0, none⟩) (out.length + 1) cp6) (out.length + 1) (cs ++ [.slice none 0 0])) (hg : (w.alloc o2).grownBy w6 (Value.slice g out.length cp).ownBlock) (hat : (Value.slice g out.length cp).ownBlock = some g6 ∨ g6 = w.heap.size + 1) :
    Nest w6 base te ti 1 0 1 (.slice (some ⟨g6, 0, none⟩) (out ++ [[]]).length cp6) (cs ++ [.slice none 0 0]) ((out ++ [[]]).map cellsI) := by
  have := h.push (w' := w6) (v' := .slice (some ⟨g6, 0, none⟩) (out.length + 1) cp6) [.slice none 0 0] rfl rfl (World.ownsRow_nil _ _ _ _) (fun b hb => by simp [Value.ownBlock] at hb) (by rw [List.length_map]; exact ho)
    ((World.grownBy_alloc w _ _).trans hg) (by
      rcases hat with e | e
      · exact .inl (by rw [e]; rfl)
      · exact .inr ⟨g6, rfl, by omega⟩)
  rw [List.map_append, List.length_append]
  exact this
theorem zeroI (w : World) : (zeroValue 3).run Tryd.prog w = .ok (.int .i64 0) w := by kernel_rfl
set_option maxHeartbeats 8000000 in
theorem groups_walk (keys : List (List Val)) (a : Option Addr) (b off cap : Nat) (kv : Nat → Value) (w : World) (hlen : keys.length ≤ 2000000) (hok : keysOK keys) (ha : keys ≠ [] → a = some ⟨b, off, none⟩ ∧ keys.length ≤ cap)
    (hkeyOf : ∀ (i : Nat) (W : World), Ext w W → i < keys.length → Calls Tryd.prog 18 #[kv i] W fun e W' => e = .returned (keyV (keys.getD i [])) ∧ Ext W W')
    (hcell : ∀ i, i < keys.length → w.cell? ⟨b, off + i, none⟩ = some (kv i)) :
    Calls Tryd.prog 8 #[.slice a keys.length cap] w fun e w' => ∃ v cs, e = .returned v ∧ Ext w w' ∧ Nest w' (w.heap.size + 1) 30 3 1 0 1 v cs ((gRun (keyAt keys) keys.length).map cellsI) := by
  have mixed : Tryd.prog.follows .mixedOrders = true := by kernel_rfl
  have hmm := @run_makeMap Tryd.prog
  go_enter Tryd.func8, Tryd.ntmps8
  go_wp2
  go_loopw [3, 13] (fun s3 s13 wr => ∃ (i cp : Nat) (g : Option Addr) (cs : List Value) (D : DataW Unit), i ≤ keys.length ∧ s3 = .slice g (gRun (keyAt keys) i).length cp ∧ s13 = .int .i64 i ∧ RG w keys i (.slice g (gRun (keyAt keys) i).length cp) cs D wr) (fun _ s13 _ => keys.length - (intOf s13).toNat)
  case atStart =>
    have e0 : gRun (keyAt keys) 0 = [] := rfl
    refine ⟨0, 0, none, [], .map [], Nat.zero_le _, rfl, rfl, ⟨(Ext.refl w).alloc _, by rw [e0]; exact Nest.nil _ _ _ _ _ _ _, World.ownsMap_made _ _ _ _, ⟨⟨[], rfl⟩, fun x _ _ => rfl, fun x _ _ h => by simp [e0] at h⟩, by simp⟩⟩
  case round =>
    obtain ⟨i, cp, g, cs, D, hi, rfl, rfl, hr⟩ := hrel
    have hGI := gRun_ok (keyAt keys) i
    have hgl : (gRun (keyAt keys) i).length ≤ i := gRun_len (keyAt keys) i
    generalize hout : gRun (keyAt keys) i = out at hr hGI hgl
    by_cases hlt : i < keys.length
    · obtain ⟨rfl, hcap⟩ := ha (fun e => by rw [e] at hlt; simp at hlt)
      obtain ⟨x, hxd⟩ : ∃ x, x = keys.getD i [] := ⟨_, rfl⟩
      have hxm : x ∈ keys := by rw [hxd, List.getD_eq_getElem?_getD, List.getElem?_eq_getElem hlt]; exact List.getElem_mem _
      obtain ⟨ok1, ok2⟩ := hok x hxm
      have hkx := hkey x ok1 ok2
      have hka : keyAt keys (i : Int) = x := by rw [hxd]; unfold keyAt; rw [Int.toNat_natCast]
      have hc := hkeyOf i _ hr.ext hlt
      rw [← hxd] at hc
      have d1 := hr.ext.keeps (hcell i hlt)
      unfold keyV at hkx hc
      have k0 : (i : Int) < (keys.length : Int) := by omega
      have th := hr.tie.has x ok1 ok2
      have ta := hr.tie.at_ x ok1 ok2
      rw [hout] at th ta
      have HR := Lib.hid hr
      have HC := Lib.hid hc
      have HX := Lib.hid hkx
      have HA := Lib.hid hka
      have HD := Lib.hid hxd
      clear hr hc hkx hka hxd hxm
      by_cases hg : gAt (keyAt keys) x out < out.length
      · have hhas : Maps.has D (klOf x) = true := th.trans (decide_eq_true hg)
        have TA := Lib.hid (ta hg)
        clear th ta
        obtain ⟨k, hkd⟩ : ∃ k, k = gAt (keyAt keys) x out := ⟨_, rfl⟩
        have HK := Lib.hid hkd
        rw [← hkd] at hg
        clear hkd
        go_upto_region 12 with (first
          | (go_at_call 18; refine HC.out.mono ?_; rintro e W1 ⟨rfl, hx1⟩; have MO := Lib.hid (HR.out.own.kept (grown_of_ext hx1) (by simp)))
          | (at_lookup; refine wpList_lookup_own_ok_int _ rfl _ _ 37 rfl 39 3 .i64 klaw Tryd.underlying37 Tryd.underlying3 (zeroI _) w.heap.size i D rfl (MO.out.alloc _) _ (klOf x) rfl HX.out ?_; intro c hat hwc; have hck : c = (k : Int) := (by rw [TA.out] at hat; simp at hat; rw [HK.out]; exact hat.symm); subst hck))
        have hn := HR.out.nest
        rw [hout] at hn
        obtain ⟨gb, rfl⟩ : ∃ gb, g = some ⟨gb, 0, none⟩ := by
          obtain ⟨_, ⟨_, h0⟩ | ⟨gb, cap, cur, hv, _⟩⟩ := hn.outer
          · rw [List.length_map] at h0; omega
          · simp only [Value.slice.injEq] at hv; exact ⟨gb, hv.1⟩
        have x2 : Ext wr (W1.alloc (Obj.cells #[Value.int .i64 (x.length : Int), Value.string ⟨(keyT x).toArray⟩] 39)) := hx1.trans ((Ext.refl _).alloc _)
        have NS := Lib.hid (hn.kept (grown_of_ext x2) (fun b hb => by simp at hb))
        have MS := Lib.hid (MO.out.alloc (Obj.cells #[Value.int .i64 (x.length : Int), Value.string ⟨(keyT x).toArray⟩] 39))
        have X3 := Lib.hid (HR.out.ext.trans x2)
        clear x2 hn hx1
        generalize W1.alloc (Obj.cells #[Value.int .i64 (x.length : Int), Value.string ⟨(keyT x).toArray⟩] 39) = W' at NS MS X3 ⊢
        obtain ⟨bytes, iI, zI, hby, hbp, _, und, hi0, hi1, hi2, hi3, hi4⟩ := slOf (t := 30) (e := 3) (τ := .int) (by kernel_rfl)
        obtain ⟨u, n1, n2, n3, n4, n5, n6, n7, n8⟩ := nest_at NS.out k hg
        obtain ⟨gl', hgl1⟩ : ∃ gl', (out.getD k []).length = gl' + 1 := ⟨(out.getD k []).length - 1, by have := List.length_pos_iff.2 (hGI.ne k hg); omega⟩
        have hil := GI.len _ hGI k
        rw [hgl1] at n4 hil
        obtain ⟨ub, ucap, rfl, _, _⟩ := n4.form (by omega)
        have c3 : (W'.alloc (Obj.cells #[Value.int .i64 (i : Int)] 3)).cell? ⟨gb, k, none⟩ = some (.slice (some ⟨ub, 0, none⟩) (gl' + 1) ucap) := ((World.grownBy_alloc W' _ none).cell_far _ n6 (by simp)).trans n2
        have f3 : (W'.alloc (Obj.cells #[Value.int .i64 (i : Int)] 3)).frozen? ⟨gb, k, none⟩ = false := ((World.grownBy_alloc W' _ none).frozen_far _ n6 (by simp)).trans n3
        have ne5 : some gb ≠ some ub := by
          rcases n5 with e | e
          · simp [Value.ownBlock] at e
          · exact fun e2 => e e2.symm
        have kk0 : (k : Int) < (out.length : Int) := by omega
        have C3 := Lib.hid c3
        have F3 := Lib.hid f3
        have N1 := Lib.hid n1
        have N4 := Lib.hid n4
        have HG := Lib.hid hgl1
        have GI1 := Lib.hid hGI
        clear c3 f3 n1 n4 n5 hgl1 hGI
        go_wp2_with (first
          | (at_builtin; refine wpList_append_lies _ rfl _ _ _ rfl (w.heap.size + 1) 3 iI zI 1 bytes und hi0 hi3 hi1 hi2 hi4 (by omega) _ _ _ rfl (N4.out.alloc _) ⟨W'.heap.size, 0, none⟩ 1 1 [.int .i64 i] rfl rfl (cell_one_new _ _ _) (ints_oneCell .i64 [(i : Int)]) (by omega) (by unfold maxLen; omega) (Nat.le_trans (Nat.mul_le_mul (show gl' + 1 + 1 ≤ 2000001 by omega) hby) (by decide)) (by simp; omega) _ rfl ?_; intro g5 cap5 w5 hown5 hgrow hat hlt5; have s1 := (hgrow.cell_far ⟨gb, k, none⟩ (by simp; omega) ne5).trans C3.out; have s2 := (hgrow.frozen_far ⟨gb, k, none⟩ (by simp; omega) ne5).trans F3.out; have HO5 := Lib.hid hown5; have HG5 := Lib.hid hgrow; have HA5 := Lib.hid hat; clear hown5 hgrow hat))
        go_roundw
        case rel =>
          have hg2 : gAt (keyAt keys) (keyAt keys (i : Int)) out = k := by rw [HA.out]; exact HK.out.symm
          have hstep : gRun (keyAt keys) (i + 1) = out.set k (out.getD k [] ++ [(i : Int)]) := by
            rw [gRun_succ, hout]; unfold gStep gAdd; rw [hg2, if_pos hg]
          have hpn := nest_put NS.out hg N1.out (by rw [HG.out]; exact HO5.out) HG5.out HA5.out
          have hbu : w.heap.size + 1 ≤ ub := (N4.out.lt ub rfl).1
          have hown2 : (w5.setCell ⟨gb, k, none⟩ (.slice (some ⟨g5, 0, none⟩) (gl' + 1 + 1) cap5)).ownsMap Tryd.prog 39 (plainElem Tryd.prog 3) w.heap.size (i + 1) D :=
            ((((MS.out.alloc _).kept HG5.out (fun e => by have e2 : w.heap.size = ub := Option.some.inj e; omega)).setCell (by show w.heap.size ≠ gb; omega) _).mono (Nat.le_succ _))
          have htie := HR.out.tie
          rw [hout] at htie
          refine ⟨i + 1, cp, some ⟨gb, 0, none⟩, cs.set k (.slice (some ⟨g5, 0, none⟩) (gl' + 1 + 1) cap5), D, by omega, ?_, by go_num, ?_⟩
          · rw [hstep, List.length_set]
          · rw [hstep, List.length_set]
            refine ⟨(ext_grown (X3.out.alloc _) HG5.out (fun b hb => by have := (N4.out.lt b hb).1; omega)).setCell (by show w.heap.size ≤ gb; omega) _, by rw [hstep]; exact hpn, hown2, by rw [hstep]; exact htie.app hg (GI1.out.ne k hg), by have := HG5.out.size; simp at this ⊢; omega⟩
        case measure => simp [intOf]; omega
      · have hhas : Maps.has D (klOf x) = false := th.trans (decide_eq_false hg)
        have HN := Lib.hid hg
        clear th ta hg
        obtain ⟨bO, iO, zO, hbO, _, _, undO, ho0, ho1, ho2, ho3, ho4⟩ := slOf (t := 25) (e := 30) (τ := .ints) (by kernel_rfl)
        obtain ⟨bytes, iI, zI, hby, hbp, _, und, hi0, hi1, hi2, hi3, hi4⟩ := slOf (t := 30) (e := 3) (τ := .int) (by kernel_rfl)
        have hn := HR.out.nest
        rw [hout] at hn
        have HNE := Lib.hid hn
        clear hn
        go_upto_region 12 with (first
          | (go_at_call 18; refine HC.out.mono ?_; rintro e W1 ⟨rfl, hx1⟩; have MO := Lib.hid (HR.out.own.kept (grown_of_ext hx1) (by simp)))
          | (at_lookup; refine wpList_lookup_own_ok_int _ rfl _ _ 37 rfl 39 3 .i64 klaw Tryd.underlying37 Tryd.underlying3 (zeroI _) w.heap.size i D rfl (MO.out.alloc _) _ (klOf x) rfl HX.out ?_; intro c hat hwc)
          | (at_mapUpdate; refine wpList_mapUpdate_own _ rfl _ _ _ 37 rfl 39 3 klaw Tryd.underlying37 _ w.heap.size i D rfl (MO.out.alloc _) (by unfold maxLen; omega) _ _ (klOf x) rfl rfl HX.out (.lit (.int .i64 out.length)) [] (plainElem_int Tryd.underlying3 (WalkArith.wf_i64 (by omega))) ?_; intro w3 hown3 hgrow3; have N3 := Lib.hid ((HNE.out.kept (grown_of_ext (hx1.trans ((Ext.refl _).alloc _))) (fun b hb => by simp at hb)).kept hgrow3 (fun b hb => by cases hb; exact Nat.lt_succ_self _)); have M3 := Lib.hid hown3; have G3 := Lib.hid hgrow3; have NO := Lib.hid (by have h := N3.out.outer; rw [List.length_map] at h; exact h : w3.ownsRow (w.heap.size + 1) 30 1 (.slice g out.length cp) out.length cs); have hsz3 := hgrow3.size; have XW := Lib.hid (ext_grown ((HR.out.ext.trans hx1).alloc _) hgrow3 (fun b hb => by cases hb; exact Nat.le_refl _)); clear hown3 hgrow3)
          | (at_builtin; refine wpList_append_lies _ rfl _ _ _ rfl (w.heap.size + 1) 30 iO zO 1 bO undO ho0 ho3 ho1 ho2 ho4 (by omega) _ _ _ rfl (NO.out.alloc _) ⟨w3.heap.size, 0, none⟩ 1 1 [.slice none 0 0] rfl rfl (cell_one_new _ _ _) (by simp [Value.oneCell']) (by omega) (by unfold maxLen; omega) (Nat.le_trans (Nat.mul_le_mul (show out.length + 1 ≤ 2000001 by omega) hbO) (by decide)) (by have := XW.out.size; have := M3.out.lt; simp; omega) _ rfl ?_; intro g6 cap6 w6 hown6 hgrow6 hat6 hlt6; have HO6 := Lib.hid hown6; have HG6 := Lib.hid hgrow6; have HA6 := Lib.hid hat6; clear hown6 hgrow6 hat6))
        have NS6 := Lib.hid (nest_newN N3.out (o2 := Obj.cells #[Value.slice none 0 0] 30) HO6.out HG6.out ((show (Value.slice g out.length cp).ownBlock = some g6 ∨ g6 = (w3.alloc (Obj.cells #[Value.slice none 0 0] 30)).heap.size from HA6.out).imp id (fun e => by rw [e]; simp)))
        have X6 := Lib.hid (ext_grown (XW.out.alloc _) HG6.out (fun b hb => by have := (NO.out.lt b hb).1; omega))
        have hcl : cs.length = out.length := by have := NO.out.1; rw [Nat.mul_one] at this; exact this
        have M6 := Lib.hid (((M3.out.alloc (Obj.cells #[Value.slice none 0 0] 30)).kept HG6.out (fun e => by have := (NO.out.lt _ e.symm).1; omega)))
        have hkl : out.length < (out ++ [[]]).length := by simp
        have hget : (out ++ [([] : List Int)]).getD out.length [] = [] := by simp
        obtain ⟨u, n1, n2, n3, n4, n5, n6, n7, n8⟩ := nest_at NS6.out out.length hkl
        have hu : u = .slice none 0 0 := by
          rw [← hcl, List.getElem?_append_right (Nat.le_refl _), Nat.sub_self] at n1
          exact (Option.some.inj n1).symm
        subst hu
        rw [hget] at n4
        have hlen1 : (out ++ [([] : List Int)]).length = out.length + 1 := by simp
        rw [hlen1] at n8
        have f3 : (w6.alloc (Obj.cells #[Value.int .i64 (i : Int)] 3)).frozen? ⟨g6, out.length, none⟩ = false := ((World.grownBy_alloc w6 _ none).frozen_far _ n6 (by simp)).trans n3
        have c3 : (w6.alloc (Obj.cells #[Value.int .i64 (i : Int)] 3)).cell? ⟨g6, out.length, none⟩ = some (.slice none 0 0) := ((World.grownBy_alloc w6 _ none).cell_far _ n6 (by simp)).trans n2
        have C3 := Lib.hid c3
        have F3 := Lib.hid f3
        have N1 := Lib.hid n1
        have N4 := Lib.hid n4
        have HL := Lib.hid hlen1
        have HGT := Lib.hid hget
        clear c3 f3 n1 n4 n5 hcl hlen1 hget
        go_wp2_with (first
          | (at_builtin; refine wpList_append_lies _ rfl _ _ _ rfl (w.heap.size + 1) 3 iI zI 1 bytes und hi0 hi3 hi1 hi2 hi4 (by omega) _ _ _ rfl (N4.out.alloc _) ⟨w6.heap.size, 0, none⟩ 1 1 [.int .i64 i] rfl rfl (cell_one_new _ _ _) (ints_oneCell .i64 [(i : Int)]) (by omega) (by unfold maxLen; simp) (Nat.le_trans (Nat.mul_le_mul (show ([] : List Int).length + 1 ≤ 2000001 by simp) hby) (by decide)) (by have := M6.out.lt; simp; omega) _ rfl ?_; intro g5 cap5 w5 hown5 hgrow hat hlt5; have s1 := (hgrow.cell_far ⟨g6, out.length, none⟩ (by simp; omega) (show (some g6 : Option Nat) ≠ (Value.slice none 0 0).ownBlock by simp [Value.ownBlock])).trans C3.out; have s2 := (hgrow.frozen_far ⟨g6, out.length, none⟩ (by simp; omega) (show (some g6 : Option Nat) ≠ (Value.slice none 0 0).ownBlock by simp [Value.ownBlock])).trans F3.out; have HO5 := Lib.hid hown5; have HG5 := Lib.hid hgrow; have HA5 := Lib.hid hat; clear hown5 hgrow hat))
        go_roundw
        case rel =>
          have hng : ¬ gAt (keyAt keys) (keyAt keys (i : Int)) out < out.length := by rw [HA.out]; exact HN.out
          have hstep1 : gRun (keyAt keys) (i + 1) = out ++ [[(i : Int)]] := by
            rw [gRun_succ, hout]; unfold gStep gAdd; rw [if_neg hng]
          have hstep : gRun (keyAt keys) (i + 1) = (out ++ [[]]).set out.length ((out ++ [[]]).getD out.length [] ++ [(i : Int)]) := by
            rw [hstep1, HGT.out]; simp
          have hpn := nest_put NS6.out hkl N1.out (by rw [HGT.out]; exact HO5.out) HG5.out HA5.out
          have htie := HR.out.tie
          rw [hout] at htie
          have hown2 : (w5.setCell ⟨g6, out.length, none⟩ (.slice (some ⟨g5, 0, none⟩) (([] : List Int).length + 1) cap5)).ownsMap Tryd.prog 39 (plainElem Tryd.prog 3) w.heap.size (i + 1) (D.put (klOf x) (.lit (.int .i64 out.length))) :=
            (((M6.out.alloc _).kept HG5.out (show some w.heap.size ≠ (Value.slice none 0 0).ownBlock by simp [Value.ownBlock])).setCell (by show w.heap.size ≠ g6; omega) _)
          refine ⟨i + 1, cap6, some ⟨g6, 0, none⟩, (cs ++ [Value.slice none 0 0]).set out.length (.slice (some ⟨g5, 0, none⟩) (([] : List Int).length + 1) cap5), D.put (klOf x) (.lit (.int .i64 out.length)), by omega, ?_, by go_num, ?_⟩
          · rw [hstep, List.length_set, HL.out]
          · rw [hstep, List.length_set]
            refine ⟨(ext_grown (X6.out.alloc _) HG5.out (fun b hb => by have e2 : (Value.slice none 0 0).ownBlock = some b := hb; simp [Value.ownBlock] at e2)).setCell (by show w.heap.size ≤ g6; omega) _, by rw [hstep]; exact hpn, hown2, ?_, by have := HG5.out.size; have := M6.out.lt; simp at *; omega⟩
            rw [hstep1]
            exact htie.push ok1 ok2 HA.out HN.out M3.out.isMap
        case measure => simp [intOf]; omega
    · go_wp2_with fail
      go_ret
      have : i = keys.length := by omega
      subst this
      exact ⟨_, cs, rfl, hr.ext, hr.nest⟩
theorem nest_ret {St : Nat → Nat → Prop} {w w' : World} {v : Value} {cs : List Value} {out : List (List Int)} (hext : Ext w w') (hbd : ∀ b o, St b o → b < w.heap.size) (h : Nest w' (w.heap.size + 1) 30 3 1 0 1 v cs (out.map cellsI))
    (hb : ∀ k, ∀ x ∈ out.getD k [], -9223372036854775808 ≤ x ∧ x ≤ 9223372036854775807) (hl : out.length ≤ 9223372036854775807) (hl2 : ∀ k, (out.getD k []).length ≤ 9223372036854775807) : Ret Tryd.prog En St w w' v [.c (.ob 0 0)] [⟨0, .ints, out, some 0, true⟩] := by
  have ho := h.outer
  rw [List.length_map] at ho
  have ho2 : w'.ownsRow w.heap.size 30 (sz .ints) v out.length cs := by
    obtain ⟨h1, h2 | ⟨g, cap, cur, e, h3, h4⟩⟩ := ho
    · exact ⟨h1, .inl h2⟩
    · exact ⟨h1, .inr ⟨g, cap, cur, e, by omega, h4⟩⟩
  refine ret_own2 (τ := .ints) (xs := out) (news := cs) hext hbd hl ho2 fun i hi j d hd => ?_
  have hd' : ([.dat (U := Un) Ty.int (out[i]'hi)] : List (V Un))[j]? = some d := hd
  cases j with
  | succ j => simp at hd'
  | zero =>
    simp at hd'; subst hd'
    have hy : (out.map cellsI)[i]? = some (cellsI (out.getD i [])) := by
      rw [List.getElem?_map, List.getElem?_eq_getElem hi, List.getD_eq_getElem?_getD, List.getElem?_eq_getElem hi]; rfl
    obtain ⟨g', cap, u, e1, e2, e0, e3, e4, e5, e6⟩ := h.get (by omega) (by omega) hy
    have e7 : out.getD i [] = out[i] := by rw [List.getD_eq_getElem?_getD, List.getElem?_eq_getElem hi]; rfl
    refine ⟨u, e0, ?_⟩
    rw [← e7]
    refine ints_vrel e5 (hb i) (hl2 i) fun b o hb => .inr ⟨by have := (e5.lt b hb).1; omega, (e5.lt b hb).2, fun e => ?_⟩
    rw [hb] at e6
    rcases e6 with e6 | e6
    · simp at e6
    · exact e6 e.symm
def F_grouper_Groups : FnC Un := fun args => match args with
  | [x0] => (dL .row x0).bind fun keys => some ([keys.length ≤ 2000000 ∧ keysOK keys], [.c (.ob 0 0)], [⟨0, .ints, r33_Groups keys, some 0, true⟩])
  | _ => none
theorem keyOf_calls {St : Nat → Nat → Prop} {w : World} {v : Value} {r : List Val} (h : VRel En St w v (.dat (U := Un) Ty.val r)) (hl : r.length ≤ 1000000000) (ht : (keyT r).length ≤ 1000000000000) (hld : Laid w) :
    Calls Tryd.prog 18 #[v] w fun e w' => e = .returned (keyV r) ∧ Ext w w' := by
  obtain ⟨a, b, off, cap, rfl, ha, hc⟩ := vals_cells h
  exact keyOf_walk r a b off cap w hld hl ht ha hc
theorem ok_grouper_Groups : FnOK 8 F_grouper_Groups := by
  intro args ob rs os h hob
  unfold F_grouper_Groups at h
  split at h
  · simp only [Option.bind_eq_some_iff, Option.some.injEq, Prod.mk.injEq] at h
    obtain ⟨keys, e0, rfl, rfl, rfl⟩ := h
    obtain rfl := dL_eq e0
    obtain ⟨hlen, hok⟩ := hob _ (List.mem_singleton.2 rfl)
    refine ⟨?_, hasBody_of Tryd.func8 (by kernel_rfl) (by kernel_rfl)⟩
    intro w St vs hbd hvs hld
    match vs, hvs with
    | [v0], ⟨h0, _⟩ =>
      obtain ⟨a, b, off, cap, kv, rfl, ha, hc⟩ := rows_cells h0
      refine (groups_walk keys a b off cap kv w hlen hok ha (fun i W hx hi => ?_) (fun i hi => (hc i hi).2.1)).mono ?_
      · have hm : keys.getD i [] ∈ keys := by rw [List.getD_eq_getElem?_getD, List.getElem?_eq_getElem hi]; exact List.getElem_mem _
        exact keyOf_calls ((hc i hi).2.2.mono (ext_keep hx hbd)) (hok _ hm).1 (hok _ hm).2 (hld.ext hx)
      · rintro e w' ⟨v, cs, rfl, hx, hR⟩
        have hg := gRun_len (keyAt keys) keys.length
        have hG := gRun_ok (keyAt keys) keys.length
        exact ⟨v, rfl, nest_ret hx hbd hR (gRun_bd keys hlen) (by show (gRun (keyAt keys) keys.length).length ≤ _; omega) (fun k => by have := GI.len _ hG k; show ((gRun (keyAt keys) keys.length).getD k []).length ≤ _; omega)⟩
  · simp at h
end
end Go.Proofs.YtfdnnfbbjiglcaaDoor.B
namespace Go.Proofs.YtfdnnfbbjiglcaaDoor.B
open Go Go.RowKit Go.Shelf
set_option maxRecDepth 1000000
set_option linter.unusedVariables false
noncomputable section
def Gr (w w' : World) : Prop := ∃ q os, w' = Sort.grow (w.drewN q) os
theorem Gr.refl (w : World) : Gr w w := ⟨0, #[], (Sort.grow_empty w).symm⟩
theorem Gr.trans {a b c : World} (h : Gr a b) (k : Gr b c) : Gr a c := by
  obtain ⟨q, os, rfl⟩ := h
  obtain ⟨q', os', rfl⟩ := k
  refine ⟨q + q', os ++ os', ?_⟩
  rw [← Sort.grow_grow, ← World.drewN_drewN]
  rfl
theorem Gr.alloc {a b : World} (h : Gr a b) (o : Obj) : Gr a (b.alloc o) := h.trans ⟨0, #[o], by
  show World.mk _ _ _ _ _ = World.mk _ _ _ _ _
  congr 1⟩
theorem Gr.drew {a b : World} (h : Gr a b) : Gr a b.drew := h.trans ⟨1, #[], by rw [Sort.grow_empty]; rfl⟩
theorem Gr.ext {a b : World} (h : Gr a b) : Ext a b := by
  obtain ⟨q, os, rfl⟩ := h
  refine ⟨rfl, rfl, rfl, by simp [Sort.grow, World.drewN], fun k hk => ?_⟩
  show (a.heap ++ os)[k]? = _
  rw [Array.getElem?_append_left hk]
def orI : List Int → Int
  | [] => 0
  | z :: r => if z = 0 then orI r else z
theorem or_walk (b off cap : Nat) (zs : List Int) (w : World) (hl : zs.length ≤ 1000000000) (hcap : zs.length ≤ cap) (hc : ∀ i, i < zs.length → w.cell? ⟨b, off + i, none⟩ = some (.int .i64 (zs.getD i 0))) :
    Calls Tryd.prog 33 #[.slice (some ⟨b, off, none⟩) zs.length cap] w fun e w' => e = .returned (.int .i64 (orI zs)) ∧ w' = w := by
  have HCc := Lib.hid hc
  clear hc
  go_enter Tryd.func33, Tryd.ntmps33
  go_wp2
  go_loop [8] (fun s8 => ∃ (i : Nat), i ≤ zs.length ∧ s8 = .int .i64 i ∧ orI (zs.drop i) = orI zs) (fun s8 => zs.length - (intOf s8).toNat)
  case atStart => exact ⟨0, Nat.zero_le _, rfl, rfl⟩
  case round =>
    obtain ⟨i, hi, rfl, ho⟩ := hrel
    by_cases hlt : i < zs.length
    · have h1 := HCc.out i hlt
      have k0 : (i : Int) < (zs.length : Int) := by omega
      have hd : zs.drop i = zs.getD i 0 :: zs.drop (i + 1) := by
        rw [List.drop_eq_getElem_cons hlt, List.getD_eq_getElem?_getD, List.getElem?_eq_getElem hlt]; rfl
      have HO := Lib.hid ho
      have HD := Lib.hid hd
      clear ho hd
      obtain ⟨z, hz⟩ : ∃ z, z = zs.getD i 0 := ⟨_, rfl⟩
      rw [← hz] at h1
      have HZ := Lib.hid hz
      clear hz
      by_cases hz0 : z = 0
      · have hz1 : (z != 0) = false := by simpa using hz0
        go_wp2_with fail
        go_round
        case rel => exact ⟨i + 1, by omega, by go_num, by rw [← HO.out, HD.out, ← HZ.out, orI, if_pos hz0]⟩
        case measure => simp [intOf]; omega
      · have hz1 : (z != 0) = true := by simpa using hz0
        go_wp2_with fail
        go_ret
        exact ⟨by rw [← HO.out, HD.out, ← HZ.out, orI, if_neg hz0]; rfl, rfl⟩
    · go_wp2_with fail
      go_ret
      refine ⟨?_, rfl⟩
      rw [List.drop_of_length_le (by omega)] at ho
      rw [← ho]; rfl
theorem cell_last {W : World} {H : Nat} (hH : W.heap.size = H) (cs : Array Value) (t : TypeId) (i : Nat) (v : Value) (hv : cs[i]? = some v) : (W.alloc (.cells cs t)).cell? ⟨H, i, none⟩ = some v := by
  subst hH
  have : (W.alloc (.cells cs t)).heap[W.heap.size]? = some (.cells cs t (0, 0)) := by
    have : ∀ (h : Array Obj) (o : Obj), (h.push o)[h.size]? = some o := fun h o => by simp
    exact this _ _
  unfold World.cell?
  rw [this]
  simp [hv]
def valV (a : Val) : Value := .agg #[.int .i64 a.kind, .int .i64 a.n, .string a.s]
theorem ord_or (a b : Val) : orI [Lib.compareInt a.kind b.kind, Lib.compareInt a.n b.n, Lib.compareBytes a.s.data.toList b.s.data.toList] = ordV a b := by
  have hc : ∀ x y : Int, Lib.compareInt x y = cmpI x y := fun x y => by
    unfold Lib.compareInt cmpI; rfl
  rw [hc, hc, compareBytes_eq]
  unfold ordV orI orI orI orI cmpS
  rw [← ByteArray.toList_eq, ← ByteArray.toList_eq]
  by_cases h1 : a.kind = b.kind
  · rw [if_pos (cmpI_zero.2 h1), if_pos h1]
    by_cases h2 : a.n = b.n
    · rw [if_pos (cmpI_zero.2 h2), if_pos h2]
      split
      · rename_i h; rw [h]
      · rfl
    · rw [if_neg (fun e => h2 (cmpI_zero.1 e)), if_neg h2]
  · rw [if_neg (fun e => h1 (cmpI_zero.1 e)), if_neg h1]
set_option maxHeartbeats 4000000 in
theorem order_walk (a b : Val) (w : World) : Calls Tryd.prog 24 #[valV a, valV b] w fun e w' => e = .returned (.int .i64 (ordV a b)) ∧ Gr w w' := by
  have mixed : Tryd.prog.follows .mixedOrders = true := by kernel_rfl
  have ho := ord_or a b
  unfold valV
  generalize a.kind = k1 at ho ⊢
  generalize b.kind = k2 at ho ⊢
  generalize a.n = n1 at ho ⊢
  generalize b.n = n2 at ho ⊢
  generalize a.s = s1 at ho ⊢
  generalize b.s = s2 at ho ⊢
  have HO := Lib.hid ho
  clear ho
  generalize ordV a b = r at HO ⊢
  go_enter Tryd.func24, Tryd.ntmps24
  go_wp2
  have g0 : Gr w ((w.alloc (Obj.cells #[Value.int .i64 k1, Value.int .i64 n1, Value.string s1] 35)).alloc (Obj.cells #[Value.int .i64 k2, Value.int .i64 n2, Value.string s2] 35)).drew := (((Gr.refl w).alloc _).alloc _).drew
  have G0 := Lib.hid g0
  clear g0
  go_region_held3 (fun w' => w'.cell? ⟨w.heap.size, 0, none⟩ = some (.int .i64 k1) ∧ w'.cell? ⟨w.heap.size, 1, none⟩ = some (.int .i64 n1) ∧ w'.cell? ⟨w.heap.size, 2, none⟩ = some (.string s1) ∧ w'.cell? ⟨w.heap.size + 1, 0, none⟩ = some (.int .i64 k2) ∧ w'.cell? ⟨w.heap.size + 1, 1, none⟩ = some (.int .i64 n2) ∧ w'.cell? ⟨w.heap.size + 1, 2, none⟩ = some (.string s2)) (go_keep)
    (first
      | (go_at_call 34; refine (Tryd.cmp_Compare_int _ _ _).mono ?_; rintro e w' ⟨rfl, rfl⟩)
      | (go_at_call 35; refine (Tryd.strings_Compare _ _ _).mono ?_; rintro e w' ⟨rfl, rfl⟩)
      | (go_at_call 33; refine (or_walk _ 0 3 [Lib.compareInt k1 k2, Lib.compareInt n1 n2, Lib.compareBytes s1.data.toList s2.data.toList] _ (by simp) (by simp) (fun i hi => by match i, hi with | 0, _ => (simp; exact cell_last (by simp) _ _ _ _ rfl) | 1, _ => (simp; exact cell_last (by simp) _ _ _ _ rfl) | 2, _ => (simp; exact cell_last (by simp) _ _ _ _ rfl))).mono ?_; rintro e w' ⟨rfl, rfl⟩))
  go_wp2
  go_ret
  exact ⟨by rw [← HO.out]; rfl, by first | exact ((((Gr.refl w).alloc _).alloc _).alloc _).drew | simpa using ((((Gr.refl w).alloc _).alloc _).alloc _).drew⟩
set_option maxHeartbeats 8000000 in
theorem compareFunc_walk (r s : List Val) (a1 a2 : Option Addr) (b1 o1 c1 b2 o2 c2 : Nat) (w : World) (hr : r.length ≤ 9223372036854775807) (hs : s.length ≤ 9223372036854775807)
    (h1 : (r ≠ [] → a1 = some ⟨b1, o1, none⟩ ∧ r.length ≤ c1)) (h2 : (s ≠ [] → a2 = some ⟨b2, o2, none⟩ ∧ s.length ≤ c2))
    (hc1 : ∀ i x, r[i]? = some x → w.cell? ⟨b1, o1 + i * 3, none⟩ = some (.int .i64 x.kind) ∧ w.cell? ⟨b1, o1 + i * 3 + 1, none⟩ = some (.int .i64 x.n) ∧ w.cell? ⟨b1, o1 + i * 3 + 2, none⟩ = some (.string x.s))
    (hc2 : ∀ i x, s[i]? = some x → w.cell? ⟨b2, o2 + i * 3, none⟩ = some (.int .i64 x.kind) ∧ w.cell? ⟨b2, o2 + i * 3 + 1, none⟩ = some (.int .i64 x.n) ∧ w.cell? ⟨b2, o2 + i * 3 + 2, none⟩ = some (.string x.s)) :
    Calls Tryd.prog 23 #[.slice a1 r.length c1, .slice a2 s.length c2, .func (.func 24) #[] #[]] w fun e w' => e = .returned (.int .i64 (ordR r s)) ∧ Gr w w' := by
  have H1 := Lib.hid hc1
  have H2 := Lib.hid hc2
  have HA1 := Lib.hid h1
  have HA2 := Lib.hid h2
  clear hc1 hc2 h1 h2
  go_enter Tryd.func23, Tryd.ntmps23
  go_wp2
  go_loopw [13] (fun s13 wr => ∃ (i : Nat), i ≤ r.length ∧ i ≤ s.length ∧ s13 = .int .i64 i ∧ ordR (r.drop i) (s.drop i) = ordR r s ∧ Gr w wr) (fun s13 _ => r.length - (intOf s13).toNat)
  case atStart => exact ⟨0, Nat.zero_le _, Nat.zero_le _, rfl, rfl, Gr.refl w⟩
  case round =>
    obtain ⟨i, hi, hi2, rfl, ho, hg⟩ := hrel
    have HO := Lib.hid ho
    have HG := Lib.hid hg
    clear ho hg
    by_cases hlt : i < r.length
    · obtain ⟨x, hx⟩ : ∃ x, r[i]? = some x := ⟨_, List.getElem?_eq_getElem hlt⟩
      obtain ⟨rfl, hcap⟩ := HA1.out (fun e => by rw [e] at hlt; simp at hlt)
      obtain ⟨c0, c1', c2'⟩ := H1.out i x hx
      have d0 := HG.out.ext.keeps c0
      have d1 := HG.out.ext.keeps c1'
      have d2 := HG.out.ext.keeps c2'
      clear c0 c1' c2'
      have k0 : (i : Int) < (r.length : Int) := by omega
      by_cases hlt2 : i < s.length
      · obtain ⟨y, hy⟩ : ∃ y, s[i]? = some y := ⟨_, List.getElem?_eq_getElem hlt2⟩
        obtain ⟨rfl, hcap2⟩ := HA2.out (fun e => by rw [e] at hlt2; simp at hlt2)
        obtain ⟨c0, c1', c2'⟩ := H2.out i y hy
        have e0 := HG.out.ext.keeps c0
        have e1 := HG.out.ext.keeps c1'
        have e2 := HG.out.ext.keeps c2'
        clear c0 c1' c2'
        have lb2 := lt_of_cell e0
        have nb2 : ¬ (b2 = wr.heap.size) := by have : b2 < wr.heap.size := lb2; omega
        have nb3 : ¬ (wr.heap.size = b2) := by omega
        have k1 : (i : Int) < (s.length : Int) := by omega
        have k2 : ¬ ((s.length : Int) ≤ (i : Int)) := by omega
        have hxy := order_walk x y
        obtain ⟨z, hz⟩ : ∃ z, z = ordV x y := ⟨_, rfl⟩
        rw [← hz] at hxy
        unfold valV at hxy
        have hdr : r.drop i = x :: r.drop (i + 1) := by rw [List.drop_eq_getElem_cons hlt]; rw [List.getElem?_eq_getElem hlt] at hx; rw [Option.some.inj hx]
        have hds : s.drop i = y :: s.drop (i + 1) := by rw [List.drop_eq_getElem_cons hlt2]; rw [List.getElem?_eq_getElem hlt2] at hy; rw [Option.some.inj hy]
        have HXY := Lib.hid hxy
        have HZ := Lib.hid hz
        have HDR := Lib.hid (And.intro hdr hds)
        clear hxy hz hx hy hdr hds
        by_cases hz0 : z = 0
        · have hz1 : (z != 0) = false := by simpa using hz0
          go_wp2_with (first | (go_at_call 24; refine (HXY.out _).mono ?_; rintro e W1 ⟨rfl, hg1⟩; have HG1 := Lib.hid hg1; clear hg1))
          refine ⟨⟨i + 1, by omega, by omega, by go_num, ?_, ((HG.out.alloc _).alloc _).trans HG1.out⟩, by simp [intOf]; omega⟩
          have h := HO.out
          rw [HDR.out.1, HDR.out.2, ordR, if_pos (by rw [← HZ.out]; exact hz0)] at h
          exact h
        · have hz1 : (z != 0) = true := by simpa using hz0
          go_wp2_with (first | (go_at_call 24; refine (HXY.out _).mono ?_; rintro e W1 ⟨rfl, hg1⟩; have HG1 := Lib.hid hg1; clear hg1))
          go_ret
          have h := HO.out
          rw [HDR.out.1, HDR.out.2, ordR, if_neg (by rw [← HZ.out]; exact hz0), ← HZ.out] at h
          exact ⟨by rw [← h]; rfl, ((HG.out.alloc _).alloc _).trans HG1.out⟩
      · have k2 : (s.length : Int) ≤ (i : Int) := by omega
        go_wp2_with fail
        go_ret
        have h := HO.out
        rw [List.drop_of_length_le (show s.length ≤ i by omega), List.drop_eq_getElem_cons hlt, ordR] at h
        exact ⟨by rw [← h]; rfl, HG.out.alloc _⟩
    · have k0 : ¬ ((i : Int) < (r.length : Int)) := by omega
      by_cases hls : r.length < s.length
      · have k1 : (r.length : Int) < (s.length : Int) := by omega
        go_wp2_with fail
        go_ret
        have h := HO.out
        rw [List.drop_of_length_le (show r.length ≤ i by omega), List.drop_eq_getElem_cons (show i < s.length by omega), ordR] at h
        exact ⟨by rw [← h]; rfl, HG.out⟩
      · have k1 : ¬ (r.length : Int) < (s.length : Int) := by omega
        go_wp2_with fail
        go_ret
        have h := HO.out
        rw [List.drop_of_length_le (show r.length ≤ i by omega), List.drop_of_length_le (show s.length ≤ i by omega), ordR] at h
        exact ⟨by rw [← h]; rfl, HG.out⟩
theorem orders_calls {St : Nat → Nat → Prop} {w : World} {u v : Value} {r s : List Val} (hr : VRel En St w u (.dat (U := Un) Ty.val r)) (hs : VRel En St w v (.dat (U := Un) Ty.val s)) : Calls Tryd.prog 15 #[u, v] w fun e w' => e = .returned (.int .i64 (ordR r s)) ∧ Gr w w' := by
  have l1 : r.length ≤ 9223372036854775807 := by rcases hr.inv with ⟨rfl, _⟩ | ⟨_, _, _, _, _, h, _⟩; simp; exact h.2
  have l2 : s.length ≤ 9223372036854775807 := by rcases hs.inv with ⟨rfl, _⟩ | ⟨_, _, _, _, _, h, _⟩; simp; exact h.2
  obtain ⟨a1, b1, o1, c1, rfl, h1, k1⟩ := vals_cells hr
  obtain ⟨a2, b2, o2, c2, rfl, h2, k2⟩ := vals_cells hs
  have hc := compareFunc_walk r s a1 a2 b1 o1 c1 b2 o2 c2 w l1 l2 h1 h2 (fun i x hx => (k1 i x hx).1) (fun i x hx => (k2 i x hx).1)
  clear h1 k1 h2 k2 hr hs
  go_enter Tryd.func15, Tryd.ntmps15
  go_wp2_with (first | (go_at_call 23; refine hc.mono ?_; rintro e W1 ⟨rfl, hg1⟩; have HG1 := Lib.hid hg1; clear hg1))
  go_ret
  exact ⟨rfl, HG1.out⟩
end
end Go.Proofs.YtfdnnfbbjiglcaaDoor.B
namespace Go.Proofs.YtfdnnfbbjiglcaaDoor.B
open Go Go.RowKit Go.Shelf
set_option maxRecDepth 1000000
def ren_sort_ints : Ren := ⟨fun | 6 => 20 | 15 => 32 | 14 => 31 | 28 => 48 | 29 => 49 | 20 => 40 | 21 => 41 | 22 => 42 | 23 => 43 | 24 => 44 | 25 => 45 | 26 => 46 | 27 => 47 | 46 => 56 | 47 => 57 | 48 => 58 | 49 => 59 | 50 => 60 | 57 => 67 | n => n, fun | 22 => 25 | 24 => 30 | 25 => 43 | 3 => 3 | 39 => 61 | 0 => 0 | 53 => 74 | 55 => 76 | 4 => 4 | 46 => 68 | 45 => 67 | 50 => 41 | 5 => 5 | 9 => 9 | 66 => 83 | 70 => 87 | 76 => 93 | 77 => 94 | n => n, fun | n => n⟩
theorem lays_sort_ints : SlLaysF.n6 Tryd.prog ren_sort_ints := {
  mixed := by kernel_rfl
  f6 := ⟨Tryd.f20.name, by kernel_rfl, Tryd.func20.trans (congrArg some (by kernel_rfl))⟩
  f14 := ⟨Tryd.f31.name, by kernel_rfl, Tryd.func31.trans (congrArg some (by kernel_rfl))⟩
  f15 := Tryd.func32.trans (congrArg some (by kernel_rfl))
  f20 := ⟨Tryd.f40.name, by kernel_rfl, Tryd.func40.trans (congrArg some (by kernel_rfl))⟩
  f21 := ⟨Tryd.f41.name, by kernel_rfl, Tryd.func41.trans (congrArg some (by kernel_rfl))⟩
  f22 := ⟨Tryd.f42.name, by kernel_rfl, Tryd.func42.trans (congrArg some (by kernel_rfl))⟩
  f23 := ⟨Tryd.f43.name, by kernel_rfl, Tryd.func43.trans (congrArg some (by kernel_rfl))⟩
  f24 := ⟨Tryd.f44.name, by kernel_rfl, Tryd.func44.trans (congrArg some (by kernel_rfl))⟩
  f25 := ⟨Tryd.f45.name, by kernel_rfl, Tryd.func45.trans (congrArg some (by kernel_rfl))⟩
  f26 := ⟨Tryd.f46.name, by kernel_rfl, Tryd.func46.trans (congrArg some (by kernel_rfl))⟩
  f27 := ⟨Tryd.f47.name, by kernel_rfl, Tryd.func47.trans (congrArg some (by kernel_rfl))⟩
  f28 := Tryd.func48.trans (congrArg some (by kernel_rfl))
  f29 := Tryd.func49.trans (congrArg some (by kernel_rfl))
  f46 := ⟨Tryd.f56.name, by kernel_rfl, Tryd.func56.trans (congrArg some (by kernel_rfl))⟩
  f47 := Tryd.func57.trans (congrArg some (by kernel_rfl))
  f48 := Tryd.func58.trans (congrArg some (by kernel_rfl))
  f49 := ⟨Tryd.f59.name, by kernel_rfl, Tryd.func59.trans (congrArg some (by kernel_rfl))⟩
  f50 := ⟨Tryd.f60.name, by kernel_rfl, Tryd.func60.trans (congrArg some (by kernel_rfl))⟩
  f57 := ⟨Tryd.f67.name, by kernel_rfl, Tryd.func67.trans (congrArg some (by kernel_rfl))⟩
  t0 := Tryd.underlying0
  a0 := Tryd.isAgg0
  z0 := Tryd.sizeOf0
  v0 := Tryd.zeroValue0
  t3 := Tryd.underlying3
  a3 := Tryd.isAgg3
  z3 := Tryd.sizeOf3
  v3 := Tryd.zeroValue3
  t4 := Tryd.underlying4
  a4 := Tryd.isAgg4
  z4 := Tryd.sizeOf4
  v4 := Tryd.zeroValue4
  t5 := Tryd.underlying5
  a5 := Tryd.isAgg5
  z5 := Tryd.sizeOf5
  v5 := Tryd.zeroValue5
  t9 := Tryd.underlying9
  a9 := Tryd.isAgg9
  z9 := Tryd.sizeOf9
  v9 := Tryd.zeroValue9
  t22 := Tryd.underlying25
  a22 := Tryd.isAgg25
  z22 := Tryd.sizeOf25
  v22 := Tryd.zeroValue25
  a24 := Tryd.isAgg30
  z24 := Tryd.sizeOf30
  t25 := Tryd.underlying43
  a25 := Tryd.isAgg43
  z25 := Tryd.sizeOf43
  v25 := Tryd.zeroValue43
  t39 := Tryd.underlying61
  a39 := Tryd.isAgg61
  z39 := Tryd.sizeOf61
  v39 := Tryd.zeroValue61
  t45 := Tryd.underlying67
  a45 := Tryd.isAgg67
  z45 := Tryd.sizeOf67
  v45 := Tryd.zeroValue67
  t46 := Tryd.underlying68
  a46 := Tryd.isAgg68
  z46 := Tryd.sizeOf68
  v46 := Tryd.zeroValue68
  t50 := Tryd.underlying41
  a50 := Tryd.isAgg41
  z50 := Tryd.sizeOf41
  v50 := Tryd.zeroValue41
  t53 := Tryd.underlying74
  a53 := Tryd.isAgg74
  z53 := Tryd.sizeOf74
  v53 := Tryd.zeroValue74
  t55 := Tryd.underlying76
  a55 := Tryd.isAgg76
  z55 := Tryd.sizeOf76
  v55 := Tryd.zeroValue76
  t66 := Tryd.underlying83
  a66 := Tryd.isAgg83
  z66 := Tryd.sizeOf83
  v66 := Tryd.zeroValue83
  t70 := Tryd.underlying87
  a70 := Tryd.isAgg87
  z70 := Tryd.sizeOf87
  v70 := Tryd.zeroValue87
  t76 := Tryd.underlying93
  a76 := Tryd.isAgg93
  z76 := Tryd.sizeOf93
  v76 := Tryd.zeroValue93
  t77 := Tryd.underlying94
  a77 := Tryd.isAgg94
  z77 := Tryd.sizeOf94
  v77 := Tryd.zeroValue94 }
end Go.Proofs.YtfdnnfbbjiglcaaDoor.B
namespace Go.Proofs.YtfdnnfbbjiglcaaDoor.B
open Go Go.RowKit Go.Shelf Go.Sort
set_option maxRecDepth 1000000
set_option linter.unusedVariables false
structure PutR (w w' : World) (b off : Nat) (us : List Value) : Prop where
  os : w'.os = w.os
  tape : w'.tape = w.tape
  output : w'.output = w.output
  size : w.heap.size ≤ w'.heap.size
  block : ∀ k, k < w.heap.size → k ≠ b → w'.heap[k]? = w.heap[k]?
  cell : ∀ (i : Nat) v, us[i]? = some v → w'.cell? ⟨b, off + i, none⟩ = some v
  other : ∀ p : Addr, p.block < w.heap.size → (p.off < off ∨ off + us.length ≤ p.off ∨ p.block ≠ b) → w'.cell? p = w.cell? p
  frozen : ∀ p : Addr, p.block < w.heap.size → stuck w' p = stuck w p
theorem grow_block (w : World) (os : Array Obj) {k : Nat} (h : k < w.heap.size) : (grow w os).heap[k]? = w.heap[k]? := by
  unfold grow; exact Array.getElem?_append_left h
theorem grow_cell (w : World) (os : Array Obj) {p : Addr} (h : p.block < w.heap.size) : (grow w os).cell? p = w.cell? p := by
  unfold World.cell?; rw [grow_block w os h]
theorem stuck_mapBlock (w : World) (blk : Nat) (f : Array Value → Array Value) (hf : ∀ c, (f c).size = c.size) (p : Addr) : stuck (mapBlock w blk f) p = stuck w p := by
  have h1 : ∀ a, (mapBlock w blk f).frozen? a = w.frozen? a := fun a => frozen?_mapBlock w blk f a
  have h2 : (mapBlock w blk f).shape? p.block = w.shape? p.block := by
    simp only [mapBlock, World.shape?, Array.getElem?_modify]
    by_cases hk : blk = p.block
    · simp only [hk, if_true]
      cases w.heap[p.block]? with
      | none => rfl
      | some o => cases o <;> simp [onCells, hf]
    · simp [hk]
  unfold stuck
  rw [h1, h2]
  simp only [h1]
theorem putR_of {α : Type} [Inhabited α] {enc : α → Value} {w : World} {b off n : Nat} {os : Array Obj} {d0 d : Array α} (hb : b < w.heap.size) (hH : Holds enc w b off d0) (hs : d.size = d0.size) :
    PutR w (grow (putRow enc (Sort.ahead w n) b off d) os) b off (d.toList.map enc) := by
  have hsz : (putRow enc (Sort.ahead w n) b off d).heap.size = w.heap.size := by rw [size_putRow]; rfl
  refine ⟨rfl, rfl, rfl, ?_, fun k hk hne => ?_, fun i v hv => ?_, fun p hp ho => ?_, fun p hp => ?_⟩
  · rw [size_grow, hsz]; omega
  · rw [grow_block _ _ (by rw [hsz]; exact hk)]
    unfold putRow mapBlock Sort.ahead
    simp only [Array.getElem?_modify, if_neg (Ne.symm hne)]
  · rw [grow_cell _ _ (by rw [hsz]; exact hb)]
    rw [List.getElem?_map] at hv
    have hi : i < d.size := by
      rcases Nat.lt_or_ge i d.size with g | g
      · exact g
      · rw [List.getElem?_eq_none (by simpa using g)] at hv; simp at hv
    have hH' : Holds enc (Sort.ahead w n) b off d0 := hH
    rw [cell?_putRow enc (Sort.ahead w n) b off d0 d hH' hs i hi]
    rw [List.getElem?_eq_getElem (by simpa using hi)] at hv
    rw [getElem!_pos d i hi]
    simpa using hv
  · rw [grow_cell _ _ (by rw [hsz]; exact hp)]
    rw [cell?_putRow_other enc (Sort.ahead w n) b off d p (by simp only [List.length_map, Array.length_toList] at ho; omega)]
    rfl
  · rw [stuck_heap (grow_block _ _ (by rw [hsz]; exact hp))]
    exact stuck_mapBlock (Sort.ahead w n) b _ (fun c => by unfold putCells; simp) p
theorem FExt.put {fr : Fr} {w' : World} {b off : Nat} {us : List Value} (hst : PutR fr.w0 w' b off us) (ho : ∀ (i : Nat), i < us.length → fr.own b (off + i)) (hne : 0 < us.length) (hld : Laid fr.w0) (hnl : ∀ b o, LB b = true → ¬ fr.own b o) : FExt fr w' := by
  refine ⟨hst.os, hst.tape, hst.output, hst.size, fun k hk hn => ?_, fun b' o hk hn => ?_, fun b' o hk hn => hst.frozen _ hk, hld.on hst.size (fun k hl => hst.block k (hld.lt k hl) fun e => hnl k (off + 0) hl (e ▸ ho 0 hne)), fun b hl => hld.lt b hl, hnl⟩
  · by_cases e : k = b
    · subst e
      exact (hn _ (ho 0 hne)).elim
    · exact hst.block k hk e
  · refine hst.other _ hk ?_
    by_cases e : b' = b
    · subst e
      by_cases h1 : o < off
      · exact .inl h1
      · by_cases h2 : off + us.length ≤ o
        · exact .inr (.inl h2)
        · have h3 := ho (o - off) (by omega)
          rw [show off + (o - off) = o from by omega] at h3; exact (hn h3).elim
    · exact .inr (.inr e)
theorem ObRel.put {g : G} {w w' : World} {k ver : Nat} {live : Bool} {τ : Ty} (h1 : sz τ = 1) {xs ys : List (Den τ)} {b off cap : Nat} {us : List Value} (htk : g.tk k = (some ⟨b, off, none⟩, cap)) (hb : b < w.heap.size) (hown : ∀ b o x, g.ω b o = some x → b < w.heap.size)
    (hO : ObAt En g w k ⟨ver, τ, xs, some 0, live⟩ b off cap (fun i j => (w.cell? ⟨b, off + i * sz τ + j, none⟩).getD undef))
    (hst : PutR w w' b off us) (hul : us.length = xs.length) (hyl : ys.length ≤ us.length) (hcap : xs.length ≤ cap) (hbig : xs.length ≤ 9223372036854775807)
    (hrel : ∀ i (hi : i < ys.length) d, (enc τ ys[i])[0]? = some d → ∃ u, us[i]? = some u ∧ VRel En g.St w u d) :
    ObRel En g w' k ⟨ver, τ, ys, some 0, live⟩ ∧ Keeps g.St w g.St w' := by
  have hmine : ∀ i, i < us.length → g.ω b (off + i) = some (.obj k) ∧ stuck w ⟨b, off + i, none⟩ = false := by
    intro i hi
    have := (hO.cell i 0 (by show i < xs.length; omega) (by show 0 < sz τ; omega)).2
    have e : off + i * Un.sz τ + 0 = off + i := by show off + i * sz τ + 0 = _; rw [h1]; omega
    rw [e] at this
    exact this.2 (Nat.zero_le _)
  have hk : Keeps g.St w g.St w' := fun b' o hs => ⟨hs, hst.other ⟨b', o, none⟩ (hown _ _ _ hs) (by
    by_cases e : b' = b
    · subst e
      by_cases h2 : o < off
      · exact .inl h2
      · by_cases h3 : off + us.length ≤ o
        · exact .inr (.inl h3)
        · have := (hmine (o - off) (by omega)).1
          rw [show off + (o - off) = o by omega] at this
          have hs' : g.ω b' o = some .st := hs
          rw [this] at hs'; simp at hs'
    · exact .inr (.inr e))⟩
  refine ⟨⟨⟨⟨by rw [htk]; show ys.length ≤ cap; omega, by show ys.length ≤ _; omega⟩, fun f hf => by simp at hf; subst hf; exact Nat.zero_le _⟩, fun _ => ⟨b, off, fun i j => us.getD i undef, by rw [htk], ⟨?_, ?_, ?_⟩⟩⟩, hk⟩
  · intro i j hi hj
    have hi' : i < ys.length := hi
    have hj' : j < sz τ := hj
    obtain rfl : j = 0 := by omega
    have e0 : off + i * Un.sz τ + 0 = off + i := by show off + i * sz τ + 0 = _; rw [h1]; omega
    show w'.cell? ⟨b, off + i * Un.sz τ + 0, none⟩ = _ ∧ Mode g w' k (some 0) i b (off + i * Un.sz τ + 0)
    rw [e0]
    refine ⟨?_, fun h => absurd h (Nat.not_lt_zero _), fun _ => ⟨(hmine i (by omega)).1, by rw [hst.frozen _ hb]; exact (hmine i (by omega)).2⟩⟩
    rw [List.getD_eq_getElem?_getD, List.getElem?_eq_getElem (by omega)]
    exact hst.cell _ _ (List.getElem?_eq_getElem (by omega))
  · intro i hi j d hd
    have hj : j < sz τ := by have h0 := (List.getElem?_eq_some_iff.1 hd).1; have := enc_len τ (ys[i]'hi); exact this ▸ h0
    obtain rfl : j = 0 := by omega
    obtain ⟨u, h2, h3⟩ := hrel i hi d hd
    show VRel En g.St w' (us.getD i undef) d
    rw [List.getD_eq_getElem?_getD, h2]
    exact h3.mono hk
  · intro hl x hx hx'
    rw [htk] at hx'
    have hx1 : ys.length * sz τ ≤ x := hx
    have hx2 : x < cap * sz τ := hx'
    rw [h1] at hx1 hx2
    rcases Nat.lt_or_ge x us.length with g1 | g1
    · exact ⟨(hmine x g1).1, ⟨us[x], hst.cell _ _ (List.getElem?_eq_getElem g1)⟩, by rw [hst.frozen _ hb]; exact (hmine x g1).2⟩
    · obtain ⟨m1, ⟨v, m2⟩, m3⟩ := hO.spare hl x (by show xs.length * sz τ ≤ x; rw [h1]; omega) (by show x < cap * sz τ; rw [h1]; omega)
      exact ⟨m1, ⟨v, by rw [hst.other ⟨b, off + x, none⟩ hb (.inr (.inl (by show off + us.length ≤ off + x; omega)))]; exact m2⟩, by rw [hst.frozen _ hb]; exact m3⟩
theorem ObRel.open1 {g : G} {w : World} {k ver : Nat} {live : Bool} {τ : Ty} {xs : List (Den τ)} (h : ObRel En g w k ⟨ver, τ, xs, some 0, live⟩) (hne : xs ≠ []) :
    ∃ b off, g.tk k = (some ⟨b, off, none⟩, (g.tk k).2) ∧ xs.length ≤ (g.tk k).2 ∧ ObAt En g w k ⟨ver, τ, xs, some 0, live⟩ b off (g.tk k).2 (fun i j => (w.cell? ⟨b, off + i * sz τ + j, none⟩).getD undef) := by
  obtain ⟨⟨⟨hcap, hmax⟩, _⟩, hrow⟩ := h
  have hpos : 0 < xs.length := List.length_pos_iff.2 hne
  have hc : xs.length ≤ (g.tk k).2 := hcap
  obtain ⟨b, off, cv, hbase, hA⟩ := hrow (by omega)
  have hcv : ∀ i j, i < xs.length → j < sz τ → (w.cell? ⟨b, off + i * sz τ + j, none⟩).getD undef = cv i j := fun i j hi hj => by
    have := (hA.cell i j hi hj).1
    have e : w.cell? ⟨b, off + i * sz τ + j, none⟩ = some (cv i j) := this
    rw [e]; rfl
  refine ⟨b, off, by rw [← hbase], hc, ⟨fun i j hi hj => ?_, fun i hi j d hd => ?_, hA.spare⟩⟩
  · have := hA.cell i j hi hj
    rw [hcv i j hi hj]; exact this
  · have hj : j < sz τ := by have h0 := (List.getElem?_eq_some_iff.1 hd).1; have := enc_len τ (xs[i]'hi); exact this ▸ h0
    rw [hcv i j hi hj]; exact hA.rel i hi j d hd
theorem vrel_s {St : Nat → Nat → Prop} {w : World} {v x : Value} (h : VRel En St w v (.s x)) : v = x ∧ oneC x = true := by cases h with | s _ h => exact ⟨rfl, h⟩
theorem ObAt.holds {g : G} {w : World} {k ver : Nat} {live : Bool} {xs : List Int} {b off cap : Nat} {cv : Nat → Nat → Value} (hA : ObAt En g w k ⟨ver, .int, xs, some 0, live⟩ b off cap cv) :
    Holds (Value.int .i64) w b off xs.toArray ∧ ∀ x ∈ xs, oneC (.int .i64 x) = true := by
  have key : ∀ i (hi : i < xs.length), cv i 0 = .int .i64 xs[i] ∧ oneC (.int .i64 xs[i]) = true := fun i hi => by
    have := hA.rel i hi 0 (.s (.int .i64 xs[i])) rfl
    exact vrel_s this
  refine ⟨fun j hj => ?_, fun x hx => ?_⟩
  · have hj' : j < xs.length := by simpa using hj
    have hc := hA.cell j 0 hj' (show (0 : Nat) < 1 from Nat.one_pos)
    have e : off + j * Un.sz .int + 0 = off + j := by show off + j * 1 + 0 = _; omega
    rw [e] at hc
    refine ⟨?_, stuck_no (hc.2.2 (Nat.zero_le _)).2⟩
    rw [hc.1, (key j hj').1, getElem!_pos _ j hj]
    simp
  · obtain ⟨i, hi, rfl⟩ := List.getElem_of_mem hx
    exact (key i hi).2
end Go.Proofs.YtfdnnfbbjiglcaaDoor.B
