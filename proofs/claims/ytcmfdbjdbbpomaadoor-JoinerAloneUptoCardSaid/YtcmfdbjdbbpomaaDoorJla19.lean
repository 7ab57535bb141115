/- Part 19 of the proof: Ljlb. -/
import Derived.Test.YtcmfdbjdbbpomaaDoorJla18
namespace Go.Proofs.YtcmfdbjdbbpomaaDoor.B
open Go Go.RowKit Go.Shelf Go.Maps
set_option maxRecDepth 1000000
set_option linter.unusedVariables false
noncomputable section
theorem alone_law_calls {n : Int} {p : List (Int × Int)} {k0 k1 : List (List Val)} {w : World} {v0 v1 c0 c1 : Value} (hk : k0.length ≤ 40 → k1.length ≤ 40 → keysOK k0 ∧ keysOK k1)
    (h0 : VRel En (StA w) w v0 (.s (U := Un) (.int .i64 n))) (h1 : VRel En (StA w) w v1 (.dat (U := Un) Ty.pair p)) (h2 : VRel En (StA w) w c0 (.dat (U := Un) Ty.row k0)) (h3 : VRel En (StA w) w c1 (.dat (U := Un) Ty.row k1)) (hld : Laid w) :
    Calls Tryd.prog 4 #[v0, v1, .agg #[c0, c1]] w fun e w' => e = .returned (.bool true) ∧ Ext w w' := by
  have hbd : ∀ b o, StA w b o → b < w.heap.size := fun b o h => h
  obtain rfl := (vrel_s h0).1
  have hwfp := VRel.wf h1
  have hwf0 := VRel.wf h2
  have hwf1 := VRel.wf h3
  obtain ⟨pa, pb, poff, pcap, rfl, hpa, hpc⟩ := pairs_cells h1
  obtain ⟨a0, b0, o0, q0, kv0, rfl, ha0, hc0⟩ := rows_cells h2
  obtain ⟨a1, b1, o1, q1, kv1, rfl, ha1, hc1⟩ := rows_cells h3
  have hm : ∀ (l : List (List Val)) i, i < l.length → l.getD i [] ∈ l := fun l i hi => by rw [List.getD_eq_getElem?_getD, List.getElem?_eq_getElem hi]; exact List.getElem_mem _
  have hb2 : ∀ {W : World}, Ext w W → ∀ b o, StA w b o → b < W.heap.size := fun hx b o hs => Nat.lt_of_lt_of_le (hbd b o hs) hx.size
  have hpl := WL.len hwfp
  have hkl := WL.len hwf0
  refine law_alone_walk n p k0 k1 pa pb poff pcap a0 a1 b0 o0 q0 b1 o1 q1 kv0 kv1 w hpl hkl ?_ ?_ ?_ ?_
  · intro W hx
    exact law_calls ok_l32_awake (args := []) rfl (by simp) (w := W) (vs := []) trivial (hld.ext hx)
  · intro hn hp W hx
    exact alone_walk n p pa pb poff pcap W (by omega) (by omega) hpa (fun i x hi => by
      obtain ⟨⟨g1, g2⟩, g3⟩ := hpc i x hi
      exact ⟨⟨hx.keeps g1, hx.keeps g2⟩, g3⟩)
  · intro hn W hx
    have g0 : VRel En (StA w) W (.int .i64 n) (.s (U := Un) (.int .i64 n)) := VRel.mono h0 (ext_keep hx hbd)
    have g1 : VRel En (StA w) W (.slice pa p.length pcap) (.dat (U := Un) Ty.pair p) := VRel.mono h1 (ext_keep hx hbd)
    have gA : All2 (DRel Tryd.prog En (StA w) W) [.int .i64 n, .slice pa p.length pcap] [.d (.v (.s (U := Un) (.int .i64 n))), .d (.v (.dat (U := Un) Ty.pair p))] := ⟨g0, g1, trivial⟩
    have gF : F_r32_Alone [.d (.v (.s (U := Un) (.int .i64 n))), .d (.v (.dat (U := Un) Ty.pair p))] = some ([n ≤ 1000000], [.c (.sl (U := Un) Ty.int (aloneL n.toNat p) false)], []) := by
      unfold F_r32_Alone
      simp only [dI_mk, dL_mk]
      rfl
    have gO : ∀ q ∈ ([n ≤ 1000000] : List Prop), q := fun q hq => by
      rw [List.mem_singleton.1 hq]; omega
    have gB : ∀ b o, StA w b o → b < W.heap.size := hb2 hx
    have gL : Laid W := hld.ext hx
    exact call_ints ok_r32_Alone gF gO gB gA gL
  · intro hl0 hl1 W hx
    obtain ⟨hok1, hok2⟩ := hk hl0 hl1
    have hx2 : ∀ {W' : World}, Ext W W' → Ext w W' := fun h => hx.trans h
    exact hash_walk k0 k1 a0 a1 b0 o0 q0 b1 o1 q1 kv0 kv1 W ⟨by omega, by omega⟩ hok1 hok2 ha0 ha1 (fun i hi => hx.keeps (hc0 i hi).2.1) (fun i hi => hx.keeps (hc1 i hi).2.1)
      (fun i W' hx' hi => whole_calls (hb2 (hx2 hx')) ((hc0 i hi).2.2.mono (ext_keep (hx2 hx') hbd)) (hld.ext (hx2 hx'))) (fun i W' hx' hi => whole_calls (hb2 (hx2 hx')) ((hc1 i hi).2.2.mono (ext_keep (hx2 hx') hbd)) (hld.ext (hx2 hx')))
      (fun i W' hx' hi => name_calls ((hc0 i hi).2.2.mono (ext_keep (hx2 hx') hbd)) (hok1 _ (hm k0 i hi)).1 (hok1 _ (hm k0 i hi)).2 (hld.ext (hx2 hx'))) (fun i W' hx' hi => name_calls ((hc1 i hi).2.2.mono (ext_keep (hx2 hx') hbd)) (hok2 _ (hm k1 i hi)).1 (hok2 _ (hm k1 i hi)).2 (hld.ext (hx2 hx')))
def tpOf : Option (TI Un) → TI Un
  | some x => x
  | none => .oth
def tiP (t : TypeId) : TI Un := tpOf (look t tab)
noncomputable def lay1P : TI Un → Bool
  | .sl e τ b => lay Tryd.prog tiP 8 e == some (fls τ) && Tryd.prog.cellsOf e == sz τ && Tryd.prog.bytesOf e == byt τ
  | _ => true
theorem lay1P_sl {e : TypeId} {τ : Ty} {b : Nat} (h : lay1P (.sl e τ b) = true) : (lay Tryd.prog tiP 8 e = some (fls τ) ∧ Tryd.prog.cellsOf e = sz τ) ∧ Tryd.prog.bytesOf e = byt τ := by
  simp only [lay1P, Bool.and_eq_true, beq_iff_eq] at h
  exact h
noncomputable def layBP : Bool := tab.all fun x => lay1P x.2
theorem layBP_true : layBP = true := by kernel_rfl
theorem layP {t e : TypeId} {τ : Ty} {b : Nat} (h : tiP t = .sl e τ b) : ((lay Tryd.prog tiP 8 e = some (fls τ) ∧ Tryd.prog.cellsOf e = sz τ) ∧ Tryd.prog.bytesOf e = byt τ) ∧ Tryd.prog.underlying t = some (.slice e) := by
  have hb := layBP_true
  unfold layBP at hb
  rw [List.all_eq_true] at hb
  unfold tiP at h
  cases hl : look t tab with
  | none => rw [hl] at h; simp [tpOf] at h
  | some x =>
    rw [hl] at h
    have hm := hb _ (look_mem hl)
    obtain rfl : x = .sl e τ b := h
    have ht := (tabOK (fun _ => none) (fun _ => none) (fun _ => none) (fun _ => none) (fun _ => none)).ti t
    have hti : (mach (fun _ => none) (fun _ => none) (fun _ => none) (fun _ => none) (fun _ => none)).ti t = .sl e τ b := by
      unfold Mc.ti mach; simp only [hl]
    rw [hti] at ht
    exact ⟨lay1P_sl hm, ht.2.1⟩
theorem tiP_sl {t : TypeId} {τ : Ty} (h : isSl τ (tiP t) = true) : tiP t = .sl (match tiP t with | .sl e _ _ => e | _ => 0) τ (match tiP t with | .sl _ _ b => b | _ => 0) := by
  cases hx : tiP t with
  | sl e τ' b =>
    rw [hx] at h
    obtain rfl : τ' = τ := of_decide_eq_true h
    rfl
  | _ => rw [hx] at h; simp [isSl] at h
section
variable {H : Type} {enc' : TypeId × Value → H} {w : World} {spare : Nat → Bool} {held : Bool} {base : Nat} {r : Reach} {b0 : Nat}
theorem arg_slP {t e : TypeId} {τ : Ty} {b : Nat} (ht : tiP t = .sl e τ b) {v : Value} {d : DataW H} {ps : List MemPlace} (hval : Value.okWide Tryd.prog w r b0 t v) (hd : DataW.Trod enc' Tryd.prog w 0 spare held t v d ps) :
    ∃ l : List (Den τ), VRel En (StA w) w v (.dat (U := Un) τ l) := by
  have hu := (layP ht).2
  obtain ⟨a, len, cap, rfl⟩ := Go.WideShapes.okWide_slice hu hval
  obtain ⟨n, hd⟩ := hd
  obtain ⟨vs, h1, h2, -, -⟩ := trod_data (fun t e τ b ht => (layP ht).1.2) (fun t e τ b ht => ⟨8, (layP ht).1.1.1⟩) decTot sz_pos (fun t e τ b ht => (layP ht).1.1.2) n t _ _ 1 [.sl τ] hd (by simp only [lay, hu, ht, if_true])
  obtain ⟨l, rs, rfl, h3⟩ := fl_sl h2
  exact ⟨l, h1.1⟩
theorem arg_rows2 {t e : TypeId} (hu : Tryd.prog.underlying t = some (.array 2 e)) (hl : lay Tryd.prog tiL 8 t = some [.sl .row, .sl .row]) {v : Value} {d : DataW H} {ps : List MemPlace} (hval : Value.okWide Tryd.prog w r b0 t v) (hd : DataW.Trod enc' Tryd.prog w 0 spare held t v d ps) :
    ∃ (k0 k1 : List (List Val)) (c0 c1 : Value), v = .agg #[c0, c1] ∧ VRel En (StA w) w c0 (.dat (U := Un) Ty.row k0) ∧ VRel En (StA w) w c1 (.dat (U := Un) Ty.row k1) ∧ BKL .row k0 (Rows.uptoBulk d - 1) ∧ BKL .row k1 (Rows.uptoBulk d - 1) := by
  have hv := hval
  simp only [Value.okWide, hu] at hv
  obtain ⟨cs, rfl, hsz, _⟩ := hv
  obtain ⟨vs, h1, h2, h4, h5⟩ := trod_lawU hd hl
  obtain ⟨l0, rs, rfl, h3⟩ := fl_sl h2
  obtain ⟨l1, rs', rfl, h6⟩ := fl_sl h3
  obtain rfl : rs' = [] := by simpa using h6
  obtain ⟨cs⟩ := cs
  have h1 : All2 (VRel En (StA w) w) cs [.dat (U := Un) Ty.row l0, .dat (U := Un) Ty.row l1] := h1
  match cs, h1 with
  | [c0, c1], ⟨g0, g1, _⟩ =>
    refine ⟨l0, l1, c0, c1, rfl, g0, g1, ?_, ?_⟩
    · cases h5 with
      | cons _ _ a c _ q1 q2 hn =>
        cases q1 with
        | dat _ _ _ q3 => exact q3.mono (by omega)
    · cases h5 with
      | cons _ _ a c _ q1 q2 hn =>
        cases q2 with
        | cons _ _ a' c' _ r1 r2 hn2 =>
          cases r1 with
          | dat _ _ _ q3 => exact q3.mono (by omega)
end
end
end Go.Proofs.YtcmfdbjdbbpomaaDoor.B
