/- guess.turned: an operator with its sides changed about, by a map. -/
import Derived.Test.YtjndihloefdplaaLscalar
import Derived.Test.YtjndihloefdplaaSspec26
import Derived.MapKept
import Derived.Carry
namespace Go.Proofs.Ytjndihloefdplaa.B
open Go Go.RowKit

def F_guess_turned : FnC Un := fun args => match args with
  | [x0] => (dI .i64 x0).bind fun op => some ([], [.c (.s (.int .i64 (turnedI op)))], [])
  | _ => none

theorem alloc_get (w : World) (o : Obj) : (w.alloc o).heap[w.heap.size]? = some o := by
  unfold World.alloc; simp
theorem alloc_set (w : World) (o o' : Obj) : ({ w.alloc o with heap := (w.alloc o).heap.setIfInBounds w.heap.size o' } : World) = w.alloc o' := by
  unfold World.alloc
  simp only
  congr 1
  apply Array.ext'
  simp [Array.toList_setIfInBounds]
theorem upd_new (w : World) (es : Array MapEntry) (c : Nat) (k v : Int) (hn : Instr.findNow (.int .i64) (.int .i64 k) es.toList 0 = some none) :
    (Instr.mapUpdate 61 (.map (some w.heap.size)) (.int .i64 k) (.int .i64 v)).run Try.prog (w.alloc (.map es c)) = .ok () (w.alloc (.map (es.push { key := .int .i64 k, val := .int .i64 v, born := c }) (c + 1))) := by
  have hm : Try.prog.underlying 61 = some (.map 3 3) := by kernel_rfl
  have hd : Try.prog.underlying 3 = some (.int .i64) := by kernel_rfl
  have hb := alloc_get w (.map es c)
  have hk : MapKept.IsKey (.int .i64) (.int .i64 k) := by simp [MapKept.IsKey]
  simp [Instr.mapUpdate, run_underlying hm, MapKept.run_getObj_map hb, MapKept.run_checkKey hd hk, MapKept.run_findKey hd hn, MapKept.run_setObj_map _ hb, Result.andThen]
  exact alloc_set w (.map es c) _
theorem look_in (w : World) (es : Array MapEntry) (c : Nat) (k : Int) (i : Nat) (v : Value) (hn : Instr.findNow (.int .i64) (.int .i64 k) es.toList 0 = some (some (i, v))) :
    (Instr.lookup 61 (.map (some w.heap.size)) (.int .i64 k) true).run Try.prog (w.alloc (.map es c)) = .ok (.tuple #[v, .bool true]) (w.alloc (.map es c)) := by
  have hm : Try.prog.underlying 61 = some (.map 3 3) := by kernel_rfl
  have hd : Try.prog.underlying 3 = some (.int .i64) := by kernel_rfl
  have hb := alloc_get w (.map es c)
  have hk : MapKept.IsKey (.int .i64) (.int .i64 k) := by simp [MapKept.IsKey]
  simp [Instr.lookup, run_underlying hm, MapKept.run_getObj_map hb, MapKept.run_checkKey hd hk, MapKept.run_findKey hd hn, Result.andThen]
theorem look_out (w : World) (es : Array MapEntry) (c : Nat) (k : Int) (hn : Instr.findNow (.int .i64) (.int .i64 k) es.toList 0 = some none) :
    (Instr.lookup 61 (.map (some w.heap.size)) (.int .i64 k) true).run Try.prog (w.alloc (.map es c)) = .ok (.tuple #[.int .i64 0, .bool false]) (w.alloc (.map es c)) := by
  have hm : Try.prog.underlying 61 = some (.map 3 3) := by kernel_rfl
  have hd : Try.prog.underlying 3 = some (.int .i64) := by kernel_rfl
  have hz : ∀ w, (zeroValue 3).run Try.prog w = .ok (.int .i64 0) w := Try.zeroValue3
  have hb := alloc_get w (.map es c)
  have hk : MapKept.IsKey (.int .i64) (.int .i64 k) := by simp [MapKept.IsKey]
  simp [Instr.lookup, run_underlying hm, MapKept.run_getObj_map hb, MapKept.run_checkKey hd hk, MapKept.run_findKey hd hn, Result.andThen, hz]

theorem turned_13 (w : World) : Calls Try.prog 24 #[.int .i64 13] w fun e w' => e = .returned (.int .i64 15) ∧ Ext w w' := by
  have mixed : Try.prog.follows .mixedOrders = true := by kernel_rfl
  have hmm := @run_makeMap Try.prog
  have u1 := upd_new w #[] 0 13 15 rfl
  have u2 := upd_new w #[⟨.int .i64 13, .int .i64 15, 0⟩] 1 14 16 rfl
  have u3 := upd_new w #[⟨.int .i64 13, .int .i64 15, 0⟩, ⟨.int .i64 14, .int .i64 16, 1⟩] 2 15 13 rfl
  have u4 := upd_new w #[⟨.int .i64 13, .int .i64 15, 0⟩, ⟨.int .i64 14, .int .i64 16, 1⟩, ⟨.int .i64 15, .int .i64 13, 2⟩] 3 16 14 rfl
  have lk := look_in w #[⟨.int .i64 13, .int .i64 15, 0⟩, ⟨.int .i64 14, .int .i64 16, 1⟩, ⟨.int .i64 15, .int .i64 13, 2⟩, ⟨.int .i64 16, .int .i64 14, 3⟩] 4 13 0 (.int .i64 15) rfl
  go_enter Try.func24, Try.ntmps24
  go_wp2
  go_ret
  exact ⟨rfl, (Ext.refl w).alloc _⟩
theorem turned_14 (w : World) : Calls Try.prog 24 #[.int .i64 14] w fun e w' => e = .returned (.int .i64 16) ∧ Ext w w' := by
  have mixed : Try.prog.follows .mixedOrders = true := by kernel_rfl
  have hmm := @run_makeMap Try.prog
  have u1 := upd_new w #[] 0 13 15 rfl
  have u2 := upd_new w #[⟨.int .i64 13, .int .i64 15, 0⟩] 1 14 16 rfl
  have u3 := upd_new w #[⟨.int .i64 13, .int .i64 15, 0⟩, ⟨.int .i64 14, .int .i64 16, 1⟩] 2 15 13 rfl
  have u4 := upd_new w #[⟨.int .i64 13, .int .i64 15, 0⟩, ⟨.int .i64 14, .int .i64 16, 1⟩, ⟨.int .i64 15, .int .i64 13, 2⟩] 3 16 14 rfl
  have lk := look_in w #[⟨.int .i64 13, .int .i64 15, 0⟩, ⟨.int .i64 14, .int .i64 16, 1⟩, ⟨.int .i64 15, .int .i64 13, 2⟩, ⟨.int .i64 16, .int .i64 14, 3⟩] 4 14 1 (.int .i64 16) rfl
  go_enter Try.func24, Try.ntmps24
  go_wp2
  go_ret
  exact ⟨rfl, (Ext.refl w).alloc _⟩
theorem turned_15 (w : World) : Calls Try.prog 24 #[.int .i64 15] w fun e w' => e = .returned (.int .i64 13) ∧ Ext w w' := by
  have mixed : Try.prog.follows .mixedOrders = true := by kernel_rfl
  have hmm := @run_makeMap Try.prog
  have u1 := upd_new w #[] 0 13 15 rfl
  have u2 := upd_new w #[⟨.int .i64 13, .int .i64 15, 0⟩] 1 14 16 rfl
  have u3 := upd_new w #[⟨.int .i64 13, .int .i64 15, 0⟩, ⟨.int .i64 14, .int .i64 16, 1⟩] 2 15 13 rfl
  have u4 := upd_new w #[⟨.int .i64 13, .int .i64 15, 0⟩, ⟨.int .i64 14, .int .i64 16, 1⟩, ⟨.int .i64 15, .int .i64 13, 2⟩] 3 16 14 rfl
  have lk := look_in w #[⟨.int .i64 13, .int .i64 15, 0⟩, ⟨.int .i64 14, .int .i64 16, 1⟩, ⟨.int .i64 15, .int .i64 13, 2⟩, ⟨.int .i64 16, .int .i64 14, 3⟩] 4 15 2 (.int .i64 13) rfl
  go_enter Try.func24, Try.ntmps24
  go_wp2
  go_ret
  exact ⟨rfl, (Ext.refl w).alloc _⟩
theorem turned_16 (w : World) : Calls Try.prog 24 #[.int .i64 16] w fun e w' => e = .returned (.int .i64 14) ∧ Ext w w' := by
  have mixed : Try.prog.follows .mixedOrders = true := by kernel_rfl
  have hmm := @run_makeMap Try.prog
  have u1 := upd_new w #[] 0 13 15 rfl
  have u2 := upd_new w #[⟨.int .i64 13, .int .i64 15, 0⟩] 1 14 16 rfl
  have u3 := upd_new w #[⟨.int .i64 13, .int .i64 15, 0⟩, ⟨.int .i64 14, .int .i64 16, 1⟩] 2 15 13 rfl
  have u4 := upd_new w #[⟨.int .i64 13, .int .i64 15, 0⟩, ⟨.int .i64 14, .int .i64 16, 1⟩, ⟨.int .i64 15, .int .i64 13, 2⟩] 3 16 14 rfl
  have lk := look_in w #[⟨.int .i64 13, .int .i64 15, 0⟩, ⟨.int .i64 14, .int .i64 16, 1⟩, ⟨.int .i64 15, .int .i64 13, 2⟩, ⟨.int .i64 16, .int .i64 14, 3⟩] 4 16 3 (.int .i64 14) rfl
  go_enter Try.func24, Try.ntmps24
  go_wp2
  go_ret
  exact ⟨rfl, (Ext.refl w).alloc _⟩
theorem turned_else (op : Int) (w : World) (h : op ≠ 13 ∧ op ≠ 14 ∧ op ≠ 15 ∧ op ≠ 16) : Calls Try.prog 24 #[.int .i64 op] w fun e w' => e = .returned (.int .i64 op) ∧ Ext w w' := by
  have hf : Instr.findNow (.int .i64) (.int .i64 op) [⟨.int .i64 13, .int .i64 15, 0⟩, ⟨.int .i64 14, .int .i64 16, 1⟩, ⟨.int .i64 15, .int .i64 13, 2⟩, ⟨.int .i64 16, .int .i64 14, 3⟩] 0 = some none := by
    have g1 : (op == 13) = false := by simpa using h.1
    have g2 : (op == 14) = false := by simpa using h.2.1
    have g3 : (op == 15) = false := by simpa using h.2.2.1
    have g4 : (op == 16) = false := by simpa using h.2.2.2
    simp only [Instr.findNow, Instr.sameNow, BEq.comm (a := (13 : Int)), BEq.comm (a := (14 : Int)), BEq.comm (a := (15 : Int)), BEq.comm (a := (16 : Int)), g1, g2, g3, g4]
    try rfl
  have mixed : Try.prog.follows .mixedOrders = true := by kernel_rfl
  have hmm := @run_makeMap Try.prog
  have u1 := upd_new w #[] 0 13 15 rfl
  have u2 := upd_new w #[⟨.int .i64 13, .int .i64 15, 0⟩] 1 14 16 rfl
  have u3 := upd_new w #[⟨.int .i64 13, .int .i64 15, 0⟩, ⟨.int .i64 14, .int .i64 16, 1⟩] 2 15 13 rfl
  have u4 := upd_new w #[⟨.int .i64 13, .int .i64 15, 0⟩, ⟨.int .i64 14, .int .i64 16, 1⟩, ⟨.int .i64 15, .int .i64 13, 2⟩] 3 16 14 rfl
  have lk := look_out w #[⟨.int .i64 13, .int .i64 15, 0⟩, ⟨.int .i64 14, .int .i64 16, 1⟩, ⟨.int .i64 15, .int .i64 13, 2⟩, ⟨.int .i64 16, .int .i64 14, 3⟩] 4 op hf
  go_enter Try.func24, Try.ntmps24
  go_wp2
  go_ret
  exact ⟨rfl, (Ext.refl w).alloc _⟩
theorem ok_guess_turned : FnOK 24 F_guess_turned := by
  intro args ob rs os h hob
  unfold F_guess_turned at h
  split at h
  · rename_i x0
    simp only [Option.bind_eq_some_iff, Option.some.injEq, Prod.mk.injEq] at h
    obtain ⟨op, e0, rfl, rfl, rfl⟩ := h
    obtain rfl := dI_eq e0
    refine ⟨?_, hasBody_of Try.func24 (by kernel_rfl) (by kernel_rfl)⟩
    by_cases hr : -9223372036854775808 ≤ op ∧ op ≤ 9223372036854775807
    · refine contract_scalarX (oneC_i64.2 (by unfold turnedI; repeat' split
                                              all_goals omega)) fun w vs St hvs => ?_
      match vs, hvs with
      | [v0], ⟨h0, _⟩ =>
        obtain ⟨rfl, -⟩ := drel_int h0
        unfold turnedI
        by_cases c1 : op = 13
        · subst c1; exact turned_13 w
        · by_cases c2 : op = 14
          · subst c2; exact turned_14 w
          · by_cases c3 : op = 15
            · subst c3; exact turned_15 w
            · by_cases c4 : op = 16
              · subst c4; exact turned_16 w
              · rw [if_neg c1, if_neg c2, if_neg c3, if_neg c4]; exact turned_else op w ⟨c1, c2, c3, c4⟩
    · intro w St vs hbd hvs
      match vs, hvs with
      | [v0], ⟨h0, _⟩ =>
        obtain ⟨rfl, g0⟩ := drel_int h0
        exact absurd g0 hr
  · simp at h
end Go.Proofs.Ytjndihloefdplaa.B
