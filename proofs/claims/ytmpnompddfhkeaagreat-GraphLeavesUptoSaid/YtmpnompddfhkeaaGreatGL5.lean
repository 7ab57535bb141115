/- Part 5 of the proof: BLaw Snum Lstrings Slstr Svalue Sbitsub Sbits2 Sgraph4 Ssame Ssame2 Ssame3 Ssame4 Ssame5 Sref03. -/
import Derived.Lib.OthersKept
import Derived.Lib.TrimU
import Derived.Deep.LoopGhost
import Derived.Shelf.Abstract
import Derived.Test.YtmpnompddfhkeaaGreatGL4
namespace Go.Proofs.YtmpnompddfhkeaaGreat.B
open Go Go.RowKit Go.ChangeShapes
set_option maxRecDepth 1000000
theorem tot_int {vs : List (V Un)} (h : vs.map flOf = (fls .int).map some) : ∃ x, dec .int vs = some x := by
  have h0 : vs.map flOf = ([.int] : List Fl).map some := h
  clear h
  obtain ⟨a0, r0, rfl, h1⟩ := fl_int h0; clear h0
  obtain rfl := fl_nil h1
  exact ⟨_, rfl⟩
theorem tot_str {vs : List (V Un)} (h : vs.map flOf = (fls .str).map some) : ∃ x, dec .str vs = some x := by
  have h0 : vs.map flOf = ([.str] : List Fl).map some := h
  clear h
  obtain ⟨a0, r0, rfl, h1⟩ := fl_str h0; clear h0
  obtain rfl := fl_nil h1
  exact ⟨_, rfl⟩
theorem tot_row {vs : List (V Un)} (h : vs.map flOf = (fls .row).map some) : ∃ x, dec .row vs = some x := by
  have h0 : vs.map flOf = ([.sl .val] : List Fl).map some := h
  clear h
  obtain ⟨a0, r0, rfl, h1⟩ := fl_sl h0; clear h0
  obtain rfl := fl_nil h1
  exact ⟨_, rfl⟩
theorem tot_ints {vs : List (V Un)} (h : vs.map flOf = (fls .ints).map some) : ∃ x, dec .ints vs = some x := by
  have h0 : vs.map flOf = ([.sl .int] : List Fl).map some := h
  clear h
  obtain ⟨a0, r0, rfl, h1⟩ := fl_sl h0; clear h0
  obtain rfl := fl_nil h1
  exact ⟨_, rfl⟩
theorem tot_pair {vs : List (V Un)} (h : vs.map flOf = (fls .pair).map some) : ∃ x, dec .pair vs = some x := by
  have h0 : vs.map flOf = ([.int, .int] : List Fl).map some := h
  clear h
  obtain ⟨a0, r0, rfl, h1⟩ := fl_int h0; clear h0
  obtain ⟨a1, r1, rfl, h2⟩ := fl_int h1; clear h1
  obtain rfl := fl_nil h2
  exact ⟨_, rfl⟩
theorem tot_val {vs : List (V Un)} (h : vs.map flOf = (fls .val).map some) : ∃ x, dec .val vs = some x := by
  have h0 : vs.map flOf = ([.int, .int, .str] : List Fl).map some := h
  clear h
  obtain ⟨a0, r0, rfl, h1⟩ := fl_int h0; clear h0
  obtain ⟨a1, r1, rfl, h2⟩ := fl_int h1; clear h1
  obtain ⟨a2, r2, rfl, h3⟩ := fl_str h2; clear h2
  obtain rfl := fl_nil h3
  exact ⟨_, rfl⟩
theorem tot_col {vs : List (V Un)} (h : vs.map flOf = (fls .col).map some) : ∃ x, dec .col vs = some x := by
  have h0 : vs.map flOf = ([.str, .str, .int] : List Fl).map some := h
  clear h
  obtain ⟨a0, r0, rfl, h1⟩ := fl_str h0; clear h0
  obtain ⟨a1, r1, rfl, h2⟩ := fl_str h1; clear h1
  obtain ⟨a2, r2, rfl, h3⟩ := fl_int h2; clear h2
  obtain rfl := fl_nil h3
  exact ⟨_, rfl⟩
theorem tot_by_ {vs : List (V Un)} (h : vs.map flOf = (fls .by_).map some) : ∃ x, dec .by_ vs = some x := by
  have h0 : vs.map flOf = ([.int, .bool] : List Fl).map some := h
  clear h
  obtain ⟨a0, r0, rfl, h1⟩ := fl_int h0; clear h0
  obtain ⟨a1, r1, rfl, h2⟩ := fl_bool h1; clear h1
  obtain rfl := fl_nil h2
  exact ⟨_, rfl⟩
theorem tot_bound {vs : List (V Un)} (h : vs.map flOf = (fls .bound).map some) : ∃ x, dec .bound vs = some x := by
  have h0 : vs.map flOf = ([.bool, .bool, .sl .val] : List Fl).map some := h
  clear h
  obtain ⟨a0, r0, rfl, h1⟩ := fl_bool h0; clear h0
  obtain ⟨a1, r1, rfl, h2⟩ := fl_bool h1; clear h1
  obtain ⟨a2, r2, rfl, h3⟩ := fl_sl h2; clear h2
  obtain rfl := fl_nil h3
  exact ⟨_, rfl⟩
theorem tot_often {vs : List (V Un)} (h : vs.map flOf = (fls .often).map some) : ∃ x, dec .often vs = some x := by
  have h0 : vs.map flOf = ([.int, .int, .str, .int] : List Fl).map some := h
  clear h
  obtain ⟨a0, r0, rfl, h1⟩ := fl_int h0; clear h0
  obtain ⟨a1, r1, rfl, h2⟩ := fl_int h1; clear h1
  obtain ⟨a2, r2, rfl, h3⟩ := fl_str h2; clear h2
  obtain ⟨a3, r3, rfl, h4⟩ := fl_int h3; clear h3
  obtain rfl := fl_nil h4
  exact ⟨_, rfl⟩
theorem tot_colStat {vs : List (V Un)} (h : vs.map flOf = (fls .colStat).map some) : ∃ x, dec .colStat vs = some x := by
  have h0 : vs.map flOf = ([.int, .int, .sl .val, .sl .often] : List Fl).map some := h
  clear h
  obtain ⟨a0, r0, rfl, h1⟩ := fl_int h0; clear h0
  obtain ⟨a1, r1, rfl, h2⟩ := fl_int h1; clear h1
  obtain ⟨a2, r2, rfl, h3⟩ := fl_sl h2; clear h2
  obtain ⟨a3, r3, rfl, h4⟩ := fl_sl h3; clear h3
  obtain rfl := fl_nil h4
  exact ⟨_, rfl⟩
theorem tot_data {vs : List (V Un)} (h : vs.map flOf = (fls .data).map some) : ∃ x, dec .data vs = some x := by
  have h0 : vs.map flOf = ([.str, .sl .row] : List Fl).map some := h
  clear h
  obtain ⟨a0, r0, rfl, h1⟩ := fl_str h0; clear h0
  obtain ⟨a1, r1, rfl, h2⟩ := fl_sl h1; clear h1
  obtain rfl := fl_nil h2
  exact ⟨_, rfl⟩
theorem tot_acc {vs : List (V Un)} (h : vs.map flOf = (fls .acc).map some) : ∃ x, dec .acc vs = some x := by
  have h0 : vs.map flOf = ([.str, .bool, .int, .int, .int, .int, .int, .str, .sl .val] : List Fl).map some := h
  clear h
  obtain ⟨a0, r0, rfl, h1⟩ := fl_str h0; clear h0
  obtain ⟨a1, r1, rfl, h2⟩ := fl_bool h1; clear h1
  obtain ⟨a2, r2, rfl, h3⟩ := fl_int h2; clear h2
  obtain ⟨a3, r3, rfl, h4⟩ := fl_int h3; clear h3
  obtain ⟨a4, r4, rfl, h5⟩ := fl_int h4; clear h4
  obtain ⟨a5, r5, rfl, h6⟩ := fl_int h5; clear h5
  obtain ⟨a6, r6, rfl, h7⟩ := fl_int h6; clear h6
  obtain ⟨a7, r7, rfl, h8⟩ := fl_str h7; clear h7
  obtain ⟨a8, r8, rfl, h9⟩ := fl_sl h8; clear h8
  obtain rfl := fl_nil h9
  exact ⟨_, rfl⟩
theorem tot_stat {vs : List (V Un)} (h : vs.map flOf = (fls .stat).map some) : ∃ x, dec .stat vs = some x := by
  have h0 : vs.map flOf = ([.str, .int, .int, .sl .colStat] : List Fl).map some := h
  clear h
  obtain ⟨a0, r0, rfl, h1⟩ := fl_str h0; clear h0
  obtain ⟨a1, r1, rfl, h2⟩ := fl_int h1; clear h1
  obtain ⟨a2, r2, rfl, h3⟩ := fl_int h2; clear h2
  obtain ⟨a3, r3, rfl, h4⟩ := fl_sl h3; clear h3
  obtain rfl := fl_nil h4
  exact ⟨_, rfl⟩
theorem tot_column {vs : List (V Un)} (h : vs.map flOf = (fls .column).map some) : ∃ x, dec .column vs = some x := by
  have h0 : vs.map flOf = ([.int, .int, .sl .val, .sl .often, .int, .int, .int] : List Fl).map some := h
  clear h
  obtain ⟨a0, r0, rfl, h1⟩ := fl_int h0; clear h0
  obtain ⟨a1, r1, rfl, h2⟩ := fl_int h1; clear h1
  obtain ⟨a2, r2, rfl, h3⟩ := fl_sl h2; clear h2
  obtain ⟨a3, r3, rfl, h4⟩ := fl_sl h3; clear h3
  obtain ⟨a4, r4, rfl, h5⟩ := fl_int h4; clear h4
  obtain ⟨a5, r5, rfl, h6⟩ := fl_int h5; clear h5
  obtain ⟨a6, r6, rfl, h7⟩ := fl_int h6; clear h6
  obtain rfl := fl_nil h7
  exact ⟨_, rfl⟩
theorem tot_term {vs : List (V Un)} (h : vs.map flOf = (fls .term).map some) : ∃ x, dec .term vs = some x := by
  have h0 : vs.map flOf = ([.int, .int, .int, .str, .int, .int, .str, .sl .term, .sl .rel, .int] : List Fl).map some := h
  clear h
  obtain ⟨a0, r0, rfl, h1⟩ := fl_int h0; clear h0
  obtain ⟨a1, r1, rfl, h2⟩ := fl_int h1; clear h1
  obtain ⟨a2, r2, rfl, h3⟩ := fl_int h2; clear h2
  obtain ⟨a3, r3, rfl, h4⟩ := fl_str h3; clear h3
  obtain ⟨a4, r4, rfl, h5⟩ := fl_int h4; clear h4
  obtain ⟨a5, r5, rfl, h6⟩ := fl_int h5; clear h5
  obtain ⟨a6, r6, rfl, h7⟩ := fl_str h6; clear h6
  obtain ⟨a7, r7, rfl, h8⟩ := fl_sl h7; clear h7
  obtain ⟨a8, r8, rfl, h9⟩ := fl_sl h8; clear h8
  obtain ⟨a9, r9, rfl, h10⟩ := fl_int h9; clear h9
  obtain rfl := fl_nil h10
  exact ⟨_, rfl⟩
theorem tot_agg {vs : List (V Un)} (h : vs.map flOf = (fls .agg).map some) : ∃ x, dec .agg vs = some x := by
  have h0 : vs.map flOf = ([.str, .bool, .sl .term] : List Fl).map some := h
  clear h
  obtain ⟨a0, r0, rfl, h1⟩ := fl_str h0; clear h0
  obtain ⟨a1, r1, rfl, h2⟩ := fl_bool h1; clear h1
  obtain ⟨a2, r2, rfl, h3⟩ := fl_sl h2; clear h2
  obtain rfl := fl_nil h3
  exact ⟨_, rfl⟩
theorem tot_rel {vs : List (V Un)} (h : vs.map flOf = (fls .rel).map some) : ∃ x, dec .rel vs = some x := by
  have h0 : vs.map flOf = ([.int, .str, .sl .col, .sl .rel, .sl .term, .sl .agg, .sl .by_, .int, .int, .bool, .sl .row] : List Fl).map some := h
  clear h
  obtain ⟨a0, r0, rfl, h1⟩ := fl_int h0; clear h0
  obtain ⟨a1, r1, rfl, h2⟩ := fl_str h1; clear h1
  obtain ⟨a2, r2, rfl, h3⟩ := fl_sl h2; clear h2
  obtain ⟨a3, r3, rfl, h4⟩ := fl_sl h3; clear h3
  obtain ⟨a4, r4, rfl, h5⟩ := fl_sl h4; clear h4
  obtain ⟨a5, r5, rfl, h6⟩ := fl_sl h5; clear h5
  obtain ⟨a6, r6, rfl, h7⟩ := fl_sl h6; clear h6
  obtain ⟨a7, r7, rfl, h8⟩ := fl_int h7; clear h7
  obtain ⟨a8, r8, rfl, h9⟩ := fl_int h8; clear h8
  obtain ⟨a9, r9, rfl, h10⟩ := fl_bool h9; clear h9
  obtain ⟨a10, r10, rfl, h11⟩ := fl_sl h10; clear h10
  obtain rfl := fl_nil h11
  exact ⟨_, rfl⟩
theorem tot_plan {vs : List (V Un)} (h : vs.map flOf = (fls .plan).map some) : ∃ x, dec .plan vs = some x := by
  have h0 : vs.map flOf = ([.int, .str, .str, .sl .col, .sl .plan, .sl .term, .sl .term, .sl .term, .sl .agg, .sl .by_, .sl .int, .bool, .bool, .sl .val, .bool, .bool, .sl .val, .int, .int, .bool, .sl .row, .int, .int] : List Fl).map some := h
  clear h
  obtain ⟨a0, r0, rfl, h1⟩ := fl_int h0; clear h0
  obtain ⟨a1, r1, rfl, h2⟩ := fl_str h1; clear h1
  obtain ⟨a2, r2, rfl, h3⟩ := fl_str h2; clear h2
  obtain ⟨a3, r3, rfl, h4⟩ := fl_sl h3; clear h3
  obtain ⟨a4, r4, rfl, h5⟩ := fl_sl h4; clear h4
  obtain ⟨a5, r5, rfl, h6⟩ := fl_sl h5; clear h5
  obtain ⟨a6, r6, rfl, h7⟩ := fl_sl h6; clear h6
  obtain ⟨a7, r7, rfl, h8⟩ := fl_sl h7; clear h7
  obtain ⟨a8, r8, rfl, h9⟩ := fl_sl h8; clear h8
  obtain ⟨a9, r9, rfl, h10⟩ := fl_sl h9; clear h9
  obtain ⟨a10, r10, rfl, h11⟩ := fl_sl h10; clear h10
  obtain ⟨a11, r11, rfl, h12⟩ := fl_bool h11; clear h11
  obtain ⟨a12, r12, rfl, h13⟩ := fl_bool h12; clear h12
  obtain ⟨a13, r13, rfl, h14⟩ := fl_sl h13; clear h13
  obtain ⟨a14, r14, rfl, h15⟩ := fl_bool h14; clear h14
  obtain ⟨a15, r15, rfl, h16⟩ := fl_bool h15; clear h15
  obtain ⟨a16, r16, rfl, h17⟩ := fl_sl h16; clear h16
  obtain ⟨a17, r17, rfl, h18⟩ := fl_int h17; clear h17
  obtain ⟨a18, r18, rfl, h19⟩ := fl_int h18; clear h18
  obtain ⟨a19, r19, rfl, h20⟩ := fl_bool h19; clear h19
  obtain ⟨a20, r20, rfl, h21⟩ := fl_sl h20; clear h20
  obtain ⟨a21, r21, rfl, h22⟩ := fl_int h21; clear h21
  obtain ⟨a22, r22, rfl, h23⟩ := fl_int h22; clear h22
  obtain rfl := fl_nil h23
  exact ⟨_, rfl⟩
theorem tot_span {vs : List (V Un)} (h : vs.map flOf = (fls .span).map some) : ∃ x, dec .span vs = some x := by
  have h0 : vs.map flOf = ([.sl .val, .bool, .bool, .sl .val, .bool, .bool, .sl .val, .int, .sl .term] : List Fl).map some := h
  clear h
  obtain ⟨a0, r0, rfl, h1⟩ := fl_sl h0; clear h0
  obtain ⟨a1, r1, rfl, h2⟩ := fl_bool h1; clear h1
  obtain ⟨a2, r2, rfl, h3⟩ := fl_bool h2; clear h2
  obtain ⟨a3, r3, rfl, h4⟩ := fl_sl h3; clear h3
  obtain ⟨a4, r4, rfl, h5⟩ := fl_bool h4; clear h4
  obtain ⟨a5, r5, rfl, h6⟩ := fl_bool h5; clear h5
  obtain ⟨a6, r6, rfl, h7⟩ := fl_sl h6; clear h6
  obtain ⟨a7, r7, rfl, h8⟩ := fl_int h7; clear h7
  obtain ⟨a8, r8, rfl, h9⟩ := fl_sl h8; clear h8
  obtain rfl := fl_nil h9
  exact ⟨_, rfl⟩
theorem decTot : DecTot := by
  intro τ vs h
  cases τ with
  | int => exact tot_int h
  | str => exact tot_str h
  | row => exact tot_row h
  | ints => exact tot_ints h
  | pair => exact tot_pair h
  | val => exact tot_val h
  | col => exact tot_col h
  | by_ => exact tot_by_ h
  | bound => exact tot_bound h
  | often => exact tot_often h
  | colStat => exact tot_colStat h
  | data => exact tot_data h
  | acc => exact tot_acc h
  | stat => exact tot_stat h
  | column => exact tot_column h
  | term => exact tot_term h
  | agg => exact tot_agg h
  | rel => exact tot_rel h
  | plan => exact tot_plan h
  | span => exact tot_span h
theorem enc_fl : ∀ (τ : Ty) (x : Den τ), (B.enc τ x).map flOf = (fls τ).map some := by intro τ x; cases τ <;> rfl
theorem inj_val {x y : Val} (h : B.enc .val x = B.enc .val y) : x = y := by
  cases x; cases y
  simp only [B.enc, List.cons.injEq, V.s.injEq, V.dat.injEq, Value.int.injEq, Value.bool.injEq, Value.string.injEq, heq_eq_eq, true_and, and_true, ci, cb, cs] at h
  simp only [Val.mk.injEq]
  exact h
theorem inj_col {x y : Col} (h : B.enc .col x = B.enc .col y) : x = y := by
  cases x; cases y
  simp only [B.enc, List.cons.injEq, V.s.injEq, V.dat.injEq, Value.int.injEq, Value.bool.injEq, Value.string.injEq, heq_eq_eq, true_and, and_true, ci, cb, cs] at h
  simp only [Col.mk.injEq]
  exact h
theorem inj_by_ {x y : By} (h : B.enc .by_ x = B.enc .by_ y) : x = y := by
  cases x; cases y
  simp only [B.enc, List.cons.injEq, V.s.injEq, V.dat.injEq, Value.int.injEq, Value.bool.injEq, Value.string.injEq, heq_eq_eq, true_and, and_true, ci, cb, cs] at h
  simp only [By.mk.injEq]
  exact h
theorem inj_bound {x y : Bound} (h : B.enc .bound x = B.enc .bound y) : x = y := by
  cases x; cases y
  simp only [B.enc, List.cons.injEq, V.s.injEq, V.dat.injEq, Value.int.injEq, Value.bool.injEq, Value.string.injEq, heq_eq_eq, true_and, and_true, ci, cb, cs] at h
  simp only [Bound.mk.injEq]
  exact h
theorem inj_often {x y : Often} (h : B.enc .often x = B.enc .often y) : x = y := by
  cases x; cases y
  simp only [B.enc, List.cons.injEq, V.s.injEq, V.dat.injEq, Value.int.injEq, Value.bool.injEq, Value.string.injEq, heq_eq_eq, true_and, and_true, ci, cb, cs] at h
  simp only [Often.mk.injEq]
  obtain ⟨e0, e1, e2, e3⟩ := h
  exact ⟨inj_val (by simp only [B.enc, ci, cb, cs]; simp only [e0, e1, e2]), e3⟩
theorem inj_colStat {x y : ColStat} (h : B.enc .colStat x = B.enc .colStat y) : x = y := by
  cases x; cases y
  simp only [B.enc, List.cons.injEq, V.s.injEq, V.dat.injEq, Value.int.injEq, Value.bool.injEq, Value.string.injEq, heq_eq_eq, true_and, and_true, ci, cb, cs] at h
  simp only [ColStat.mk.injEq]
  exact h
theorem inj_data {x y : Data} (h : B.enc .data x = B.enc .data y) : x = y := by
  cases x; cases y
  simp only [B.enc, List.cons.injEq, V.s.injEq, V.dat.injEq, Value.int.injEq, Value.bool.injEq, Value.string.injEq, heq_eq_eq, true_and, and_true, ci, cb, cs] at h
  simp only [Data.mk.injEq]
  exact h
theorem inj_acc {x y : Acc} (h : B.enc .acc x = B.enc .acc y) : x = y := by
  cases x; cases y
  simp only [B.enc, List.cons.injEq, V.s.injEq, V.dat.injEq, Value.int.injEq, Value.bool.injEq, Value.string.injEq, heq_eq_eq, true_and, and_true, ci, cb, cs] at h
  simp only [Acc.mk.injEq]
  obtain ⟨e0, e1, e2, e3, e4, e5, e6, e7, e8⟩ := h
  exact ⟨e0, e1, e2, e3, e4, inj_val (by simp only [B.enc, ci, cb, cs]; simp only [e5, e6, e7]), e8⟩
theorem inj_stat {x y : Stat} (h : B.enc .stat x = B.enc .stat y) : x = y := by
  cases x; cases y
  simp only [B.enc, List.cons.injEq, V.s.injEq, V.dat.injEq, Value.int.injEq, Value.bool.injEq, Value.string.injEq, heq_eq_eq, true_and, and_true, ci, cb, cs] at h
  simp only [Stat.mk.injEq]
  exact h
theorem inj_column {x y : Column} (h : B.enc .column x = B.enc .column y) : x = y := by
  cases x; cases y
  simp only [B.enc, List.cons.injEq, V.s.injEq, V.dat.injEq, Value.int.injEq, Value.bool.injEq, Value.string.injEq, heq_eq_eq, true_and, and_true, ci, cb, cs] at h
  simp only [Column.mk.injEq]
  obtain ⟨e0, e1, e2, e3, e4, e5, e6⟩ := h
  exact ⟨inj_colStat (by simp only [B.enc, ci, cb, cs]; simp only [e0, e1, e2, e3]), e4, e5, e6⟩
theorem inj_term {x y : Term} (h : B.enc .term x = B.enc .term y) : x = y := by
  cases x; cases y
  simp only [B.enc, Term.op_mk, Term.v_mk, Term.depth_mk, Term.at__mk, Term.name_mk, Term.kids_mk, Term.sub_mk, Term.type_mk, List.cons.injEq, V.s.injEq, V.dat.injEq, Value.int.injEq, Value.bool.injEq, Value.string.injEq, heq_eq_eq, true_and, and_true, ci, cb, cs] at h
  simp only [Term.mk.injEq]
  obtain ⟨e0, e1, e2, e3, e4, e5, e6, e7, e8, e9⟩ := h
  exact ⟨e0, inj_val (by simp only [B.enc, ci, cb, cs]; simp only [e1, e2, e3]), e4, e5, e6, e7, e8, e9⟩
theorem inj_agg {x y : Agg} (h : B.enc .agg x = B.enc .agg y) : x = y := by
  cases x; cases y
  simp only [B.enc, Agg.name_mk, Agg.distinct_mk, Agg.t_mk, List.cons.injEq, V.s.injEq, V.dat.injEq, Value.int.injEq, Value.bool.injEq, Value.string.injEq, heq_eq_eq, true_and, and_true, ci, cb, cs] at h
  simp only [Agg.mk.injEq]
  exact h
theorem inj_rel {x y : Rel} (h : B.enc .rel x = B.enc .rel y) : x = y := by
  cases x; cases y
  simp only [B.enc, Rel.op_mk, Rel.table_mk, Rel.cols_mk, Rel.kids_mk, Rel.terms_mk, Rel.aggs_mk, Rel.keys_mk, Rel.limit_mk, Rel.skip_mk, Rel.all_mk, Rel.rows_mk, List.cons.injEq, V.s.injEq, V.dat.injEq, Value.int.injEq, Value.bool.injEq, Value.string.injEq, heq_eq_eq, true_and, and_true, ci, cb, cs] at h
  simp only [Rel.mk.injEq]
  exact h
theorem inj_plan {x y : Plan} (h : B.enc .plan x = B.enc .plan y) : x = y := by
  cases x; cases y
  simp only [B.enc, Plan.op_mk, Plan.table_mk, Plan.index_mk, Plan.cols_mk, Plan.kids_mk, Plan.terms_mk, Plan.lkeys_mk, Plan.rkeys_mk, Plan.aggs_mk, Plan.keys_mk, Plan.out_mk, Plan.lo_mk, Plan.hi_mk, Plan.limit_mk, Plan.skip_mk, Plan.all_mk, Plan.rows_mk, Plan.est_mk, Plan.cost_mk, List.cons.injEq, V.s.injEq, V.dat.injEq, Value.int.injEq, Value.bool.injEq, Value.string.injEq, heq_eq_eq, true_and, and_true, ci, cb, cs] at h
  simp only [Plan.mk.injEq]
  obtain ⟨e0, e1, e2, e3, e4, e5, e6, e7, e8, e9, e10, e11, e12, e13, e14, e15, e16, e17, e18, e19, e20, e21, e22⟩ := h
  exact ⟨e0, e1, e2, e3, e4, e5, e6, e7, e8, e9, e10, inj_bound (by simp only [B.enc, ci, cb, cs]; simp only [e11, e12, e13]), inj_bound (by simp only [B.enc, ci, cb, cs]; simp only [e14, e15, e16]), e17, e18, e19, e20, e21, e22⟩
theorem inj_span {x y : Span} (h : B.enc .span x = B.enc .span y) : x = y := by
  cases x; cases y
  simp only [B.enc, List.cons.injEq, V.s.injEq, V.dat.injEq, Value.int.injEq, Value.bool.injEq, Value.string.injEq, heq_eq_eq, true_and, and_true, ci, cb, cs] at h
  simp only [Span.mk.injEq]
  obtain ⟨e0, e1, e2, e3, e4, e5, e6, e7, e8⟩ := h
  exact ⟨e0, inj_bound (by simp only [B.enc, ci, cb, cs]; simp only [e1, e2, e3]), inj_bound (by simp only [B.enc, ci, cb, cs]; simp only [e4, e5, e6]), e7, e8⟩
theorem enc_inj : ∀ {τ : Ty} {x y : Den τ}, B.enc τ x = B.enc τ y → x = y := by
  intro τ x y h
  cases τ with
  | int => simp [B.enc, ci, cs] at h; exact h
  | str => simp [B.enc, ci, cs] at h; exact h
  | row => simp [B.enc, ci, cs] at h; exact h
  | ints => simp [B.enc, ci, cs] at h; exact h
  | pair => obtain ⟨x1, x2⟩ := x; obtain ⟨y1, y2⟩ := y; simp [B.enc, ci] at h; simp [h]
  | val => exact inj_val h
  | col => exact inj_col h
  | by_ => exact inj_by_ h
  | bound => exact inj_bound h
  | often => exact inj_often h
  | colStat => exact inj_colStat h
  | data => exact inj_data h
  | acc => exact inj_acc h
  | stat => exact inj_stat h
  | column => exact inj_column h
  | term => exact inj_term h
  | agg => exact inj_agg h
  | rel => exact inj_rel h
  | plan => exact inj_plan h
  | span => exact inj_span h
theorem sz_pos : ∀ τ, 0 < sz τ := by intro τ; cases τ <;> decide
def byt : Ty → Nat
  | .int => 8
  | .str => 16
  | .row => 24
  | .ints => 24
  | .pair => 16
  | .val => 32
  | .col => 40
  | .by_ => 16
  | .bound => 32
  | .often => 40
  | .colStat => 64
  | .data => 40
  | .acc => 104
  | .stat => 56
  | .column => 88
  | .term => 128
  | .agg => 48
  | .rel => 192
  | .plan => 360
  | .span => 120
def tl : Option (TI Un) → TI Un
  | some (.sl _ .pair _) => .oth
  | some x => x
  | none => .oth
theorem tl_sl {x : TI Un} {e : TypeId} {τ : Ty} {b : Nat} (h : tl (some x) = .sl e τ b) : x = .sl e τ b ∧ τ ≠ .pair := by
  cases x with
  | sl e' τ' b' =>
    cases τ' <;> simp [tl] at h <;> (obtain ⟨rfl, rfl, rfl⟩ := h; exact ⟨rfl, by simp⟩)
  | _ => simp [tl] at h
def tiL (t : TypeId) : TI Un := tl (look t tab)
noncomputable def lay1 : TI Un → Bool
  | .sl _ .pair _ => true
  | .sl e τ b => lay Tryz.prog tiL 8 e == some (fls τ) && Tryz.prog.cellsOf e == sz τ && Tryz.prog.bytesOf e == byt τ && b == byt τ
  | _ => true
theorem lay1_sl {e : TypeId} {τ : Ty} {b : Nat} (h : lay1 (.sl e τ b) = true) (hp : τ ≠ .pair)   : (lay Tryz.prog tiL 8 e = some (fls τ) ∧ Tryz.prog.cellsOf e = sz τ) ∧ Tryz.prog.bytesOf e = byt τ := by
  cases τ <;> first | exact absurd rfl hp | (simp only [lay1, Bool.and_eq_true, beq_iff_eq] at h; exact h.1)
noncomputable def layB : Bool := tab.all fun x => lay1 x.2
theorem layB_true : layB = true := by kernel_rfl
theorem layOf {t e : TypeId} {τ : Ty} {b : Nat} (h : tiL t = .sl e τ b) : (lay Tryz.prog tiL 8 e = some (fls τ) ∧ Tryz.prog.cellsOf e = sz τ) ∧ Tryz.prog.underlying t = some (.slice e) := by
  have hb := layB_true
  unfold layB at hb
  rw [List.all_eq_true] at hb
  unfold tiL at h
  cases hl : look t tab with
  | none => rw [hl] at h; simp [tl] at h
  | some x =>
    rw [hl] at h
    have hm := hb _ (look_mem hl)
    obtain ⟨rfl, hp⟩ := tl_sl h
    have ht := (tabOK (fun _ => none) (fun _ => none) (fun _ => none) (fun _ => none) (fun _ => none)).ti t
    have hti : (mach (fun _ => none) (fun _ => none) (fun _ => none) (fun _ => none) (fun _ => none)).ti t = .sl e τ b := by
      unfold Mc.ti mach; simp only [hl]
    rw [hti] at ht
    exact ⟨(lay1_sl hm hp).1, ht.2.1⟩
theorem bytOf {t e : TypeId} {τ : Ty} {b : Nat} (h : tiL t = .sl e τ b) : Tryz.prog.bytesOf e = byt τ := by
  have hb := layB_true
  unfold layB at hb
  rw [List.all_eq_true] at hb
  unfold tiL at h
  cases hl : look t tab with
  | none => rw [hl] at h; simp [tl] at h
  | some x =>
    rw [hl] at h
    have hm := hb _ (look_mem hl)
    obtain ⟨rfl, hp⟩ := tl_sl h
    exact (lay1_sl hm hp).2
section
variable {H : Type} {enc' : TypeId × Value → H} {w : World} {spare : Nat → Bool} {held : Bool} {base : Nat} {r : Reach} {b0 : Nat}
theorem trod_lawU {t : TypeId} {cs : List Value} {d : DataW H} {ps : List MemPlace} {k : Nat} {fl : List Fl} (h : ∃ n, DataW.trod enc' Tryz.prog w 0 spare held n t cs = some (d, ps)) (hl : lay Tryz.prog tiL k t = some fl) :
    ∃ vs, All2 (VRel En (StA w) w) cs vs ∧ vs.map flOf = fl.map some ∧ ((∀ q ∈ d.weights Tryz.prog t, q ≤ reachBytes) → ∀ v ∈ vs, VB byt v) ∧ BKS vs (Rows.uptoBulk d - 1) := by
  obtain ⟨n, h⟩ := h
  exact trod_data (fun t e τ b ht => bytOf ht) (fun t e τ b ht => ⟨8, (layOf ht).1.1⟩) decTot sz_pos (fun t e τ b ht => (layOf ht).1.2) n t cs _ k fl h hl
theorem arg_stU {t : TypeId} (τ : Ty) {fs : Array Field} (hu : Tryz.prog.underlying t = some (.struct fs)) (hl : lay Tryz.prog tiL 8 t = some (fls τ)) {v : Value} {d : DataW H} {ps : List MemPlace} (hval : Value.okWide Tryz.prog w r b0 t v) (hd : DataW.Trod enc' Tryz.prog w 0 spare held t v d ps) :
    ∃ x : Den τ, DRel Tryz.prog En (StA w) w v (.d (.agg (B.enc τ x))) ∧ ((∀ q ∈ d.weights Tryz.prog t, q ≤ reachBytes) → ∀ c ∈ B.enc τ x, VB byt c) ∧ BKS (B.enc τ x) (Rows.uptoBulk d - 1) := by
  obtain ⟨cs, rfl, _⟩ := Go.WideShapes.okWide_struct hu hval
  obtain ⟨vs, h1, h2, h4, h5⟩ := trod_lawU hd hl
  obtain ⟨x, hx⟩ := decTot τ vs h2
  refine ⟨x, ?_⟩
  rw [enc_back τ vs x hx]
  exact ⟨⟨cs, rfl, h1⟩, h4, h5⟩
end
def isSt : Option TypeDesc → Bool
  | some (.struct _) => true
  | _ => false
theorem und_st {t : TypeId} (h : isSt (Tryz.prog.underlying t) = true) : ∃ fs, Tryz.prog.underlying t = some (.struct fs) := by
  unfold isSt at h; split at h
  · rename_i hx; exact ⟨_, hx⟩
  · simp at h
theorem dS_mk (τ : Ty) (x : Den τ) : dS τ (.d (.agg (B.enc τ x))) = some x := by
  obtain ⟨y, hy⟩ := decTot τ (B.enc τ x) (enc_fl τ x)
  show dec τ (B.enc τ x) = some x
  rw [hy]
  exact congrArg some (enc_inj (enc_back τ _ y hy))
theorem law_calls {f : FuncId} {F : FnC Un} (hok : FnOK f F) {args : List (D Un)} {ob : List Prop} (hF : F args = some (ob, [.c (.s (.bool true))], [])) (hob : ∀ p ∈ ob, p) {w : World} {vs : List Value} (hrel : All2 (DRel Tryz.prog En (StA w) w) vs args) :
    Calls Tryz.prog f vs.toArray w fun e w' => e = .returned (.bool true) ∧ Ext w w' := by
  refine ((hok args ob _ [] hF hob).1 w (StA w) vs (fun b o h => h) hrel).mono ?_
  rintro e w' ⟨v, rfl, hx, g, -, -, -, hr, -⟩
  exact ⟨by rw [show v = .bool true from hr.1], hx⟩
end Go.Proofs.YtmpnompddfhkeaaGreat.B
namespace Go.Proofs.YtmpnompddfhkeaaGreat.B
open Go Go.RowKit
set_option maxRecDepth 100000
noncomputable section
attribute [local irreducible] awp ctxK itersK iterK retQ retGQ
def M_num_In : Mc Un := mach (tbl []) (tbl []) (tbl []) (tbl []) (tbl [])
def N_num_In : Nat → NS := fun l => (look l []).getD ⟨[], [], [], [], []⟩
def A_num_In (r : Bool) : List (A Un) := [.c (.s (.bool r))]
def O_num_In (_r : Bool) : List (Ob Un) := []
theorem num_In_in (n : Int) (K : List (A Un) → List (Ob Un) → Prop) :
    awp M_num_In N_num_In (bodyOf Tryz.f150) (entry Tryz.f150.ntmps 0 [.d (.v (.s (.int .i64 n)))]) (retQ M_num_In Tryz.f150.results.toList [.d] K) =
(cnd (decide (n ≥ (-1000000000000000 : Int)))
 (K (A_num_In (decide (n ≤ (1000000000000000 : Int)))) (O_num_In (decide (n ≤ (1000000000000000 : Int)))))
 (K (A_num_In (false)) (O_num_In (false)))) := by kernel_rfl
def num_In_fn (n : Int) : Option (Bool) :=
  if (decide (n ≥ (-1000000000000000 : Int))) = true then
   some (decide (n ≤ (1000000000000000 : Int)))
  else
   some (false)
theorem num_In_run {n : Int} {r : Bool} (h : num_In_fn n = some r) : Runs (awp M_num_In N_num_In (bodyOf Tryz.f150) (entry Tryz.f150.ntmps 0 [.d (.v (.s (.int .i64 n)))]) (retQ M_num_In Tryz.f150.results.toList [.d] fun rs os => rs = A_num_In r ∧ os = O_num_In r)) := by
  constructor
  rw [num_In_in n (fun rs os => rs = A_num_In r ∧ os = O_num_In r)]
  unfold num_In_fn at h
  rcases ite_some h with ⟨c1, h2⟩ | ⟨c1, h2⟩
  · cases h2
    exact (cnd_t c1 ⟨rfl, rfl⟩)
  · cases h2
    exact (cnd_f (bfalse c1) ⟨rfl, rfl⟩)
def num_In (n : Int) : Bool :=
  if (decide (n ≥ (-1000000000000000 : Int))) = true then
   (decide (n ≤ (1000000000000000 : Int)))
  else
   (false)
theorem num_In_eq (n : Int) : num_In_fn n = some (num_In n) := by unfold num_In_fn num_In; repeat (first | rfl | split)
def F_num_In : FnC Un := fun args => match args with
  | [x0] => (dI .i64 x0).bind fun n => some ([], A_num_In (num_In n), O_num_In (num_In n))
  | _ => none
theorem ok_num_In : FnOK 150 F_num_In := by
  intro args ob rs os h hob
  unfold F_num_In at h
  split at h
  · simp only [Option.bind_eq_some_iff, Option.some.injEq, Prod.mk.injEq] at h
    obtain ⟨n, e0, rfl, rfl, rfl⟩ := h
    obtain rfl := dI_eq e0
    exact ⟨fn_contract (M := M_num_In) rfl (tbl_ok (l1 := []) (l2 := []) (l3 := []) (l4 := []) (l5 := []) trivial trivial trivial trivial trivial) Tryz.func150 (by kernel_rfl) N_num_In 0 [.d] (fun hwf => num_In_run (num_In_eq n)), hasBody_of Tryz.func150 (by kernel_rfl) (by kernel_rfl)⟩
  · simp at h
@[simp] theorem num_In_spec (n : Int) : num_In n = inN n := by
  unfold num_In inN
  by_cases h : n ≥ -1000000000000000
  · rw [if_pos (decide_eq_true h)]; congr 1; simp only [eq_iff_iff]; omega
  · rw [if_neg (by simpa using h)]; symm; simp only [decide_eq_false_iff_not]; omega
end
end Go.Proofs.YtmpnompddfhkeaaGreat.B
namespace Go.Proofs.YtmpnompddfhkeaaGreat.B
open Go Go.RowKit
set_option maxRecDepth 1000000
def isB1 : Option (List Prop × List (D0 Un)) → Bool
  | some ([], [.v (.s (.bool _))]) => true
  | _ => false
noncomputable def boolOf (p : Prop) : Bool := @decide p (Classical.propDecidable p)
theorem boolOf_iff {p : Prop} : boolOf p = true ↔ p := @decide_eq_true_iff p (Classical.propDecidable p)
noncomputable def runesOK (φ : FV Un) : Bool := boolOf (∀ c : Nat, c ≤ 1114111 → isB1 (φ [.v (.s (.int .i32 c))]) = true)
def runeP (φ : FV Un) (c : Nat) : Bool :=
  match φ [.v (.s (.int .i32 c))] with
  | some (_, [.v (.s (.bool b))]) => b
  | _ => false
theorem runesOK_iff (φ : FV Un) : runesOK φ = true ↔ ∀ c, c ≤ 1114111 → φ [.v (.s (.int .i32 (c : Nat)))] = some ([], [.v (.s (.bool (runeP φ c)))]) := by
  unfold runesOK
  refine boolOf_iff.trans ?_
  refine forall_congr' fun c => forall_congr' fun _ => ?_
  unfold isB1 runeP
  split
  · rename_i b e
    rw [e]; simp
  · rename_i hn
    refine ⟨fun h => by simp at h, fun h => absurd h ?_⟩
    intro h
    exact hn _ h
def idxFrom (p : Nat → Bool) (t : Bool) (s : ByteArray) : Nat → Nat → Int
  | 0, _ => -1
  | f + 1, pos => if pos < s.size then (if p (Utf8.decode s pos).1 = t then (pos : Int) else idxFrom p t s f (pos + (Utf8.decode s pos).2)) else -1
@[irreducible] def idxF (p : Nat → Bool) (t : Bool) (s : ByteArray) : Int := idxFrom p t s s.size 0
theorem idxFrom_end (p : Nat → Bool) (t : Bool) (s : ByteArray) (f pos : Nat) (h : ¬ pos < s.size) : idxFrom p t s f pos = -1 := by cases f <;> simp [idxFrom, h]
set_option maxHeartbeats 2000000 in
set_option maxRecDepth 1000000 in
theorem indexFunc_walk (g : Nat) (lb : Array Value) (hg : HasBody Tryz.prog g) (p : Nat → Bool) (truth : Bool) (s : ByteArray) (w : World)
    (hp : ∀ (W : World) (x : Nat), x ≤ 1114111 → Below w.heap.size w W → Calls Tryz.prog g (#[.int .i32 (x : Int)] ++ lb) W fun e W' => e = .returned (.bool (p x)) ∧ Below W.heap.size W W') :
    Calls Tryz.prog 181 #[.string s, .func (.func g) #[] lb, .bool truth] w fun e w' => e = .returned (.int .i64 (idxF p truth s)) ∧ Below w.heap.size w w' := by
  have eg : ∀ args w, (callFunc g args).run Tryz.prog w = .ok (.enter g args) w := by
    obtain ⟨fn, c, h1, h2, h3⟩ := hg
    exact enters_of h1 h3 h2
  unfold idxF
  go_enter Tryz.func181, Tryz.ntmps181
  go_wp2
  go_loopg [] s.size (fun gf wx => ∃ pos : Nat, wx.heap[w.heap.size]? = some (.stringIter s pos) ∧ Below w.heap.size w wx ∧ idxFrom p truth s gf pos = idxFrom p truth s s.size 0 ∧ s.size ≤ pos + gf)
  case atStart => exact ⟨0, World.iter_heap w s 0, (Below.refl _ w).alloc (Nat.le_refl _) _, rfl, by omega⟩
  case round =>
    obtain ⟨pos, hit, hbw, hleft, hfu⟩ := hrel
    by_cases hps : pos < s.size
    · obtain ⟨g', rfl⟩ : ∃ g', gk = g' + 1 := ⟨gk - 1, by omega⟩
      have hnx : ∀ ty, (Instr.next (.pointer (some ⟨w.heap.size, 0, none⟩)) true ty).run Tryz.prog wr = _ := fun ty => Lib.run_next_any_at wr w.heap.size s pos ty hit hps
      have hwd := Lib.width_pos s pos
      obtain ⟨R, hR⟩ : ∃ R, (Utf8.decode s pos).1 = R := ⟨_, rfl⟩
      obtain ⟨K, hK⟩ : ∃ K, (Utf8.decode s pos).2 = K := ⟨_, rfl⟩
      simp only [idxFrom, hps, if_true, hR, hK] at hleft
      rw [hR, hK] at hnx
      rw [hK] at hwd
      have hit2 := Lib.iterAt_heap wr w.heap.size s pos (pos + K) hit
      have hbw2 := Lib.below_iterAt hbw (k := w.heap.size) (Nat.le_refl _) s (pos + K)
      obtain ⟨W, hWd⟩ : ∃ W, wr.iterAt w.heap.size s (pos + K) = W := ⟨_, rfl⟩
      rw [hWd] at hnx hit2 hbw2
      have hlt : w.heap.size < W.heap.size := (Array.getElem?_eq_some_iff.1 hit2).1
      have cS : Calls Tryz.prog g (#[.int .i32 (R : Int)] ++ lb) W _ := hp W R (by rw [← hR]; exact Lib.rune_le s pos) hbw2
      clear hp
      cases hsp : p R <;> cases truth <;> rw [hsp] at cS <;> simp only [hsp, if_true, Bool.false_eq_true, Bool.true_eq_false, if_false] at hleft
      · go_wp2_with (go_at_fn g; refine cS.mono ?_; rintro e W' ⟨rfl, hb⟩)
        go_ret
        exact ⟨by rw [← hleft] <;> rfl, hbw2.trans (hb.mono hbw2.size)⟩
      · go_wp2_with (go_at_fn g; refine cS.mono ?_; rintro e W' ⟨rfl, hb⟩)
        go_roundg g'
        case measure => omega
        case rel => exact ⟨pos + K, (hb.block _ hlt).trans hit2, hbw2.trans (hb.mono hbw2.size), hleft, by omega⟩
      · go_wp2_with (go_at_fn g; refine cS.mono ?_; rintro e W' ⟨rfl, hb⟩)
        go_roundg g'
        case measure => omega
        case rel => exact ⟨pos + K, (hb.block _ hlt).trans hit2, hbw2.trans (hb.mono hbw2.size), hleft, by omega⟩
      · go_wp2_with (go_at_fn g; refine cS.mono ?_; rintro e W' ⟨rfl, hb⟩)
        go_ret
        exact ⟨by rw [← hleft] <;> rfl, hbw2.trans (hb.mono hbw2.size)⟩
    · have hnx : ∀ ty, (Instr.next (.pointer (some ⟨w.heap.size, 0, none⟩)) true ty).run Tryz.prog wr = _ := fun ty => Lib.run_next_end_at wr w.heap.size s pos ty hit hps
      rw [idxFrom_end p truth s gk pos hps] at hleft
      go_wp2
      go_ret
      exact ⟨by rw [← hleft] <;> rfl, hbw⟩
noncomputable def F_strings_indexFunc : FnC Un := fun args => match args with
  | [x0, x1, x2] => (dStr x0).bind fun s => (dF x1).bind fun φ => (dB x2).bind fun t => some ([runesOK φ = true], [.c (.s (.int .i64 (idxF (runeP φ) t s)))], [])
  | _ => none
theorem idxFrom_range (p : Nat → Bool) (t : Bool) (s : ByteArray) : ∀ (f pos : Nat), idxFrom p t s f pos = -1 ∨ ((pos : Int) ≤ idxFrom p t s f pos ∧ idxFrom p t s f pos < s.size)
  | 0, _ => .inl rfl
  | f + 1, pos => by
    simp only [idxFrom]
    split
    · split
      · right; omega
      · rcases idxFrom_range p t s f (pos + (Utf8.decode s pos).2) with h | h
        · exact .inl h
        · right; omega
    · exact .inl rfl
theorem idxF_range (p : Nat → Bool) (t : Bool) (s : ByteArray) : -1 ≤ idxF p t s ∧ idxF p t s ≤ s.size := by
  unfold idxF
  rcases idxFrom_range p t s s.size 0 with h | h <;> omega
theorem ok_strings_indexFunc : FnOK 181 F_strings_indexFunc := by
  intro args ob rs os h hob
  unfold F_strings_indexFunc at h
  split at h
  · rename_i x0 x1 x2
    simp only [Option.bind_eq_some_iff, Option.some.injEq, Prod.mk.injEq] at h
    obtain ⟨s, e0, φ, e1, t, e2, rfl, rfl, rfl⟩ := h
    obtain rfl := dStr_eq e0
    obtain rfl := dF_eq e1
    obtain rfl := dB_eq e2
    have hr := (runesOK_iff φ).1 (hob _ (by simp))
    refine ⟨?_, hasBody_of Tryz.func181 (by kernel_rfl) (by kernel_rfl)⟩
    intro w St vs hbd hvs
    match vs, hvs with
    | [v0, v1, v2], ⟨h0, ⟨g, caps, e1, hg, hgv⟩, h2, _⟩ =>
      have e0 : v0 = .string s ∧ oneC (.string s) = true := by
        have h0' : VRel En St w v0 (.s (.string s)) := h0
        cases h0' with | s _ h => exact ⟨rfl, h⟩
      have e2 : v2 = .bool t := by
        have h2' : VRel En St w v2 (.s (.bool t)) := h2
        cases h2' with | s _ _ => rfl
      obtain ⟨e0, hsz⟩ := e0
      subst e0; subst e1; subst e2
      have hsz' := oneC_str.1 hsz
      have := indexFunc_walk g caps hg (runeP φ) t s w (fun W x hx hb => by
        have hk : Keeps St w St W := fun b o hs => ⟨hs, Below.cell hb (hbd b o hs)⟩
        have := hgv St W hk (fun b o hs => Nat.lt_of_lt_of_le (hbd b o hs) hb.size) [.v (.s (.int .i32 (x : Nat)))] [] _ (hr x hx) (by simp) [.int .i32 (x : Int)] ⟨.s _ (by
          refine oneC_int.2 ⟨?_, ?_⟩
          · have : IntKind.i32.min = -2147483648 := rfl
            omega
          · have : IntKind.i32.max = 2147483647 := rfl
            omega), trivial⟩
        refine Calls.mono this ?_
        rintro e W' ⟨v, rfl, hext, St', _, _, hrr⟩
        have hv : VRel En St' W' v (.s (.bool (runeP φ x))) := hrr
        cases hv with | s _ _ => exact ⟨rfl, hext⟩)
      refine Calls.mono this ?_
      rintro e w' ⟨rfl, hb⟩
      let gg : G := { β := fun _ => 0, lb := fun _ => False, ω := fun _ _ => none, tk := fun _ => (none, 0) }
      have hin := idxF_range (runeP φ) t s
      refine ⟨_, rfl, hb, gg, fun _ h => h, fun b o x _ h => by simp [gg] at h, fun b o x h => by simp [gg] at h, ⟨rfl, oneC_i64.2 (by omega)⟩, fun k o h => by simp at h⟩
  · simp at h
end Go.Proofs.YtmpnompddfhkeaaGreat.B
namespace Go.Proofs.YtmpnompddfhkeaaGreat.B
open Go Go.RowKit
set_option maxRecDepth 100000
noncomputable section
attribute [local irreducible] awp ctxK itersK iterK retQ retGQ
def M_strings_IndexFunc : Mc Un := mach (tbl [(181, F_strings_indexFunc)]) (tbl []) (tbl []) (tbl []) (tbl [])
def N_strings_IndexFunc : Nat → NS := fun l => (look l []).getD ⟨[], [], [], [], []⟩
def A_strings_IndexFunc (r : Int) : List (A Un) := [.c (.s (.int .i64 r))]
def O_strings_IndexFunc (_r : Int) : List (Ob Un) := []
theorem strings_IndexFunc_in (s : ByteArray) (φ : FV Un) (K : List (A Un) → List (Ob Un) → Prop) :
    awp M_strings_IndexFunc N_strings_IndexFunc (bodyOf Tryz.f148) (entry Tryz.f148.ntmps 0 [.d (.v (cs s)), .fn φ]) (retQ M_strings_IndexFunc Tryz.f148.results.toList [.d] K) =
((runesOK φ = true) ∧
(K (A_strings_IndexFunc (idxF (runeP φ) true s)) (O_strings_IndexFunc (idxF (runeP φ) true s)))) := by kernel_rfl
def strings_IndexFunc_fn (s : ByteArray) (φ : FV Un) : Option (Int) :=
  if runesOK φ = true then
   some (idxF (runeP φ) true s)
  else none
theorem strings_IndexFunc_run {s : ByteArray} {φ : FV Un} {r : Int} (h : strings_IndexFunc_fn s φ = some r) : Runs (awp M_strings_IndexFunc N_strings_IndexFunc (bodyOf Tryz.f148) (entry Tryz.f148.ntmps 0 [.d (.v (cs s)), .fn φ]) (retQ M_strings_IndexFunc Tryz.f148.results.toList [.d] fun rs os => rs = A_strings_IndexFunc r ∧ os = O_strings_IndexFunc r)) := by
  constructor
  rw [strings_IndexFunc_in s φ (fun rs os => rs = A_strings_IndexFunc r ∧ os = O_strings_IndexFunc r)]
  unfold strings_IndexFunc_fn at h
  obtain ⟨c1, h2⟩ := ob_some h
  cases h2
  exact (And.intro c1 ⟨rfl, rfl⟩)
def strings_IndexFunc (s : ByteArray) (φ : FV Un) : Int := idxF (runeP φ) true s
theorem strings_IndexFunc_spec (s : ByteArray) (φ : FV Un) (_hs : WStr s) (h : runesOK φ = true) : strings_IndexFunc_fn s φ = some (strings_IndexFunc s φ) := by
  simp [strings_IndexFunc_fn, strings_IndexFunc, h]
def F_strings_IndexFunc : FnC Un := fun args => match args with
  | [x0, x1] => (dStr x0).bind fun s => (dF x1).bind fun φ => some ([runesOK φ = true], A_strings_IndexFunc (strings_IndexFunc s φ), O_strings_IndexFunc (strings_IndexFunc s φ))
  | _ => none
theorem ok_strings_IndexFunc : FnOK 148 F_strings_IndexFunc := by
  intro args ob rs os h hob
  unfold F_strings_IndexFunc at h
  split at h
  · simp only [Option.bind_eq_some_iff, Option.some.injEq, Prod.mk.injEq] at h
    obtain ⟨s, e0, φ, e1, rfl, rfl, rfl⟩ := h
    obtain rfl := dStr_eq e0
    obtain rfl := dF_eq e1
    exact ⟨fn_contract (M := M_strings_IndexFunc) rfl (tbl_ok (l1 := [(181, F_strings_indexFunc)]) (l2 := []) (l3 := []) (l4 := []) (l5 := []) ⟨ok_strings_indexFunc, trivial⟩ trivial trivial trivial trivial) Tryz.func148 (by kernel_rfl) N_strings_IndexFunc 0 [.d] (fun hwf => strings_IndexFunc_run (strings_IndexFunc_spec s φ (wfArg hwf (a := .d (.v (cs s))) (List.mem_of_getElem? (i := 0) rfl)) (hob _ (List.mem_of_getElem? (i := 0) rfl)))), hasBody_of Tryz.func148 (by kernel_rfl) (by kernel_rfl)⟩
  · simp at h
end
end Go.Proofs.YtmpnompddfhkeaaGreat.B
namespace Go.Proofs.YtmpnompddfhkeaaGreat.B
open Go Go.RowKit
set_option maxRecDepth 100000
noncomputable section
attribute [local irreducible] awp ctxK itersK iterK retQ retGQ
theorem odd_idx {p : Nat → Bool} (hp : ∀ c, p c = (decide (c < 32) || decide (126 < c))) (s : ByteArray) : ∀ (f pos : Nat), s.size ≤ pos + f → (idxFrom p true s f pos < 0 ↔ ∀ b ∈ s.toList.drop pos, 32 ≤ b.toNat ∧ b.toNat ≤ 126)
  | 0, pos, h => by
    have : s.toList.drop pos = [] := List.drop_of_length_le (by rw [toList_size]; omega)
    simp [idxFrom, this]
  | f + 1, pos, h => by
    by_cases hps : pos < s.size
    · have hl : pos < s.toList.length := by rw [toList_size]; exact hps
      have hd : s.toList.drop pos = s.toList.getD pos 0 :: s.toList.drop (pos + 1) := by
        rw [List.drop_eq_getElem_cons hl, List.getD_eq_getElem?_getD, List.getElem?_eq_getElem hl]; rfl
      simp only [idxFrom, hps, if_true]
      rw [hd, List.forall_mem_cons]
      have hdec := decode_get s pos hps
      generalize s.toList.getD pos 0 = b at hdec ⊢
      rcases hdec with ⟨h1, h2⟩ | ⟨h1, h2⟩
      · rw [h1, h2, ← odd_idx hp s f (pos + 1) (by omega), hp]
        by_cases hb : 32 ≤ b.toNat ∧ b.toNat ≤ 126
        · have e : (decide (b.toNat < 32) || decide (126 < b.toNat)) = false := by simp; omega
          rw [e]; simp [hb]
        · have e : (decide (b.toNat < 32) || decide (126 < b.toNat)) = true := by simp; omega
          rw [e]; simp only [if_true]; constructor
          · intro hh; omega
          · intro hh; exact absurd hh.1 hb
      · have e : p (Utf8.decode s pos).1 = true := by rw [hp]; simp; omega
        rw [e]; simp only [if_true]; constructor
        · intro hh; omega
        · intro hh; omega
    · have : s.toList.drop pos = [] := List.drop_of_length_le (by rw [toList_size]; omega)
      rw [idxFrom_end _ _ _ _ _ hps]; simp [this]
def M_value_odd : Mc Un := mach (tbl []) (tbl []) (tbl []) (tbl []) (tbl [])
def N_value_odd : Nat → NS := fun l => (look l []).getD ⟨[], [], [], [], []⟩
def A_value_odd (r : Bool) : List (A Un) := [.c (.s (.bool r))]
def O_value_odd (_r : Bool) : List (Ob Un) := []
theorem value_odd_in (c : Int) (K : List (A Un) → List (Ob Un) → Prop) :
    awp M_value_odd N_value_odd (bodyOf Tryz.f149) (entry Tryz.f149.ntmps 0 [.d (.v (.s (.int .i32 c)))]) (retQ M_value_odd Tryz.f149.results.toList [.d] K) =
(cnd (decide (c < (32 : Int)))
 (K (A_value_odd (true)) (O_value_odd (true)))
 (K (A_value_odd (decide (c > (126 : Int)))) (O_value_odd (decide (c > (126 : Int)))))) := by kernel_rfl
def value_odd_fn (c : Int) : Option (Bool) :=
  if (decide (c < (32 : Int))) = true then
   some (true)
  else
   some (decide (c > (126 : Int)))
theorem value_odd_run {c : Int} {r : Bool} (h : value_odd_fn c = some r) : Runs (awp M_value_odd N_value_odd (bodyOf Tryz.f149) (entry Tryz.f149.ntmps 0 [.d (.v (.s (.int .i32 c)))]) (retQ M_value_odd Tryz.f149.results.toList [.d] fun rs os => rs = A_value_odd r ∧ os = O_value_odd r)) := by
  constructor
  rw [value_odd_in c (fun rs os => rs = A_value_odd r ∧ os = O_value_odd r)]
  unfold value_odd_fn at h
  rcases ite_some h with ⟨c1, h2⟩ | ⟨c1, h2⟩
  · cases h2
    exact (cnd_t c1 ⟨rfl, rfl⟩)
  · cases h2
    exact (cnd_f (bfalse c1) ⟨rfl, rfl⟩)
def value_odd (c : Int) : Bool :=
  if (decide (c < (32 : Int))) = true then
   (true)
  else
   (decide (c > (126 : Int)))
theorem value_odd_eq (c : Int) : value_odd_fn c = some (value_odd c) := by unfold value_odd_fn value_odd; repeat (first | rfl | split)
def F_value_odd : FnC Un := fun args => match args with
  | [x0] => (dI .i32 x0).bind fun c => some ([], A_value_odd (value_odd c), O_value_odd (value_odd c))
  | _ => none
theorem ok_value_odd : FnOK 149 F_value_odd := by
  intro args ob rs os h hob
  unfold F_value_odd at h
  split at h
  · simp only [Option.bind_eq_some_iff, Option.some.injEq, Prod.mk.injEq] at h
    obtain ⟨c, e0, rfl, rfl, rfl⟩ := h
    obtain rfl := dI_eq e0
    exact ⟨fn_contract (M := M_value_odd) rfl (tbl_ok (l1 := []) (l2 := []) (l3 := []) (l4 := []) (l5 := []) trivial trivial trivial trivial trivial) Tryz.func149 (by kernel_rfl) N_value_odd 0 [.d] (fun hwf => value_odd_run (value_odd_eq c)), hasBody_of Tryz.func149 (by kernel_rfl) (by kernel_rfl)⟩
  · simp at h
def V_value_odd : FV Un := fun args => match args with
  | [x0] => (dI .i32 (.d x0)).bind fun c => some ([], [.v (cb (value_odd c))])
  | _ => none
theorem okV_value_odd : FvOK 149 V_value_odd := by
  refine ⟨hasBody_of Tryz.func149 (by kernel_rfl) (by kernel_rfl), fun args ob rs h hob => ?_⟩
  unfold V_value_odd at h
  split at h
  · simp only [Option.bind_eq_some_iff, Option.some.injEq, Prod.mk.injEq] at h
    obtain ⟨c, e0, rfl, rfl⟩ := h
    simp only [List.map_cons, List.map_nil]
    rw [dI_eq e0]
    refine Contract.data (ok_value_odd _ ([]) _ _ (?_ : F_value_odd _ = some _) (by simp)).1
    unfold F_value_odd
    simp only [dI_mk]
    rfl
  · simp at h
def M_value_Right : Mc Un := mach (tbl [(148, F_strings_IndexFunc), (150, F_num_In)]) (tbl [(149, V_value_odd)]) (tbl []) (tbl []) (tbl [])
def N_value_Right : Nat → NS := fun l => (look l []).getD ⟨[], [], [], [], []⟩
def A_value_Right (r : Bool) : List (A Un) := [.c (.s (.bool r))]
def O_value_Right (_r : Bool) : List (Ob Un) := []
theorem value_Right_in (v : Val) (K : List (A Un) → List (Ob Un) → Prop) :
    awp M_value_Right N_value_Right (bodyOf Tryz.f100) (entry Tryz.f100.ntmps 0 [.d (.agg (enc Ty.val v))]) (retQ M_value_Right Tryz.f100.results.toList [.d] K) =
(cnd (v.kind == (3 : Int))
 (cnd (v.n == (0 : Int))
  (cnd (decide ((↑v.s.size : Int) ≤ (100 : Int)))
   ((runesOK V_value_odd = true) ∧
   (K (A_value_Right (decide (strings_IndexFunc v.s V_value_odd < (0 : Int)))) (O_value_Right (decide (strings_IndexFunc v.s V_value_odd < (0 : Int))))))
   (K (A_value_Right (false)) (O_value_Right (false))))
  (K (A_value_Right (false)) (O_value_Right (false))))
 (cnd (!v.s.toList == (ByteArray.mk #[]).toList)
  (K (A_value_Right (false)) (O_value_Right (false)))
  (cnd (v.kind == (0 : Int))
   (K (A_value_Right (v.n == (0 : Int))) (O_value_Right (v.n == (0 : Int))))
   (cnd (v.kind == (1 : Int))
    (K (A_value_Right (IntKind.i64.wrap (↑(BitVec.ofInt IntKind.i64.bits v.n &&& ~~~BitVec.ofInt IntKind.i64.bits (1 : Int)).toNat : Int) == (0 : Int))) (O_value_Right (IntKind.i64.wrap (↑(BitVec.ofInt IntKind.i64.bits v.n &&& ~~~BitVec.ofInt IntKind.i64.bits (1 : Int)).toNat : Int) == (0 : Int))))
    (cnd (v.kind == (2 : Int))
     (K (A_value_Right (num_In v.n)) (O_value_Right (num_In v.n)))
     (K (A_value_Right (false)) (O_value_Right (false)))))))) := by kernel_rfl
def value_Right_fn (v : Val) : Option (Bool) :=
  if (v.kind == (3 : Int)) = true then
   if (v.n == (0 : Int)) = true then
    if (decide ((↑v.s.size : Int) ≤ (100 : Int))) = true then
     if runesOK V_value_odd = true then
      some (decide (strings_IndexFunc v.s V_value_odd < (0 : Int)))
     else none
    else
     some (false)
   else
    some (false)
  else
   if (!v.s.toList == (ByteArray.mk #[]).toList) = true then
    some (false)
   else
    if (v.kind == (0 : Int)) = true then
     some (v.n == (0 : Int))
    else
     if (v.kind == (1 : Int)) = true then
      some (IntKind.i64.wrap (↑(BitVec.ofInt IntKind.i64.bits v.n &&& ~~~BitVec.ofInt IntKind.i64.bits (1 : Int)).toNat : Int) == (0 : Int))
     else
      if (v.kind == (2 : Int)) = true then
       some (num_In v.n)
      else
       some (false)
theorem value_Right_run {v : Val} {r : Bool} (h : value_Right_fn v = some r) : Runs (awp M_value_Right N_value_Right (bodyOf Tryz.f100) (entry Tryz.f100.ntmps 0 [.d (.agg (enc Ty.val v))]) (retQ M_value_Right Tryz.f100.results.toList [.d] fun rs os => rs = A_value_Right r ∧ os = O_value_Right r)) := by
  constructor
  rw [value_Right_in v (fun rs os => rs = A_value_Right r ∧ os = O_value_Right r)]
  unfold value_Right_fn at h
  rcases ite_some h with ⟨c1, h2⟩ | ⟨c1, h2⟩
  · rcases ite_some h2 with ⟨c3, h4⟩ | ⟨c3, h4⟩
    · rcases ite_some h4 with ⟨c5, h6⟩ | ⟨c5, h6⟩
      · obtain ⟨c7, h8⟩ := ob_some h6
        cases h8
        exact (cnd_t c1 (cnd_t c3 (cnd_t c5 (And.intro c7 ⟨rfl, rfl⟩))))
      · cases h6
        exact (cnd_t c1 (cnd_t c3 (cnd_f (bfalse c5) ⟨rfl, rfl⟩)))
    · cases h4
      exact (cnd_t c1 (cnd_f (bfalse c3) ⟨rfl, rfl⟩))
  · rcases ite_some h2 with ⟨c9, h10⟩ | ⟨c9, h10⟩
    · cases h10
      exact (cnd_f (bfalse c1) (cnd_t c9 ⟨rfl, rfl⟩))
    · rcases ite_some h10 with ⟨c11, h12⟩ | ⟨c11, h12⟩
      · cases h12
        exact (cnd_f (bfalse c1) (cnd_f (bfalse c9) (cnd_t c11 ⟨rfl, rfl⟩)))
      · rcases ite_some h12 with ⟨c13, h14⟩ | ⟨c13, h14⟩
        · cases h14
          exact (cnd_f (bfalse c1) (cnd_f (bfalse c9) (cnd_f (bfalse c11) (cnd_t c13 ⟨rfl, rfl⟩))))
        · rcases ite_some h14 with ⟨c15, h16⟩ | ⟨c15, h16⟩
          · cases h16
            exact (cnd_f (bfalse c1) (cnd_f (bfalse c9) (cnd_f (bfalse c11) (cnd_f (bfalse c13) (cnd_t c15 ⟨rfl, rfl⟩)))))
          · cases h16
            exact (cnd_f (bfalse c1) (cnd_f (bfalse c9) (cnd_f (bfalse c11) (cnd_f (bfalse c13) (cnd_f (bfalse c15) ⟨rfl, rfl⟩)))))
def value_Right (v : Val) : Bool := rightV v
@[simp] theorem value_Right_eq (v : Val) : value_Right v = rightV v := by unfold value_Right; rfl
theorem V_odd_run (c : Nat) : V_value_odd [.v (.s (.int .i32 (c : Nat)))] = some ([], [.v (cb (decide (c < 32) || decide (126 < c)))]) := by
  have : value_odd (c : Nat) = (decide (c < 32) || decide (126 < c)) := by
    unfold value_odd
    split
    · rename_i h; have : c < 32 := by have := of_decide_eq_true h; omega
      simp [this]
    · rename_i h; have : ¬ c < 32 := fun hc => h (decide_eq_true (by omega))
      simp only [this, decide_false, Bool.false_or]
      congr 1; simp only [eq_iff_iff]; omega
  simp only [V_value_odd, dI_mk, Option.bind_some, this]
theorem odd_runes : runesOK V_value_odd = true := (runesOK_iff _).2 fun c _ => by
  simp only [runeP, V_odd_run]; rfl
theorem and_not_one {n : Int} (hn : WI n) : (IntKind.i64.wrap ↑(BitVec.ofInt IntKind.i64.bits n &&& ~~~BitVec.ofInt IntKind.i64.bits (1 : Int)).toNat == (0 : Int)) = decide (n = 0 ∨ n = 1) := by
  have key : IntKind.i64.wrap ↑(BitVec.ofInt IntKind.i64.bits n &&& ~~~BitVec.ofInt IntKind.i64.bits (1 : Int)).toNat = 0 ↔ n = 0 ∨ n = 1 := by
    have hb : (BitVec.ofInt 64 n &&& ~~~BitVec.ofInt 64 (1 : Int)).toNat < 2 ^ 64 := BitVec.isLt _
    have hw : IntKind.i64.wrap ↑(BitVec.ofInt 64 n &&& ~~~BitVec.ofInt 64 (1 : Int)).toNat = 0 ↔ (BitVec.ofInt 64 n &&& ~~~BitVec.ofInt 64 (1 : Int)).toNat = 0 := by
      generalize (BitVec.ofInt 64 n &&& ~~~BitVec.ofInt 64 (1 : Int)).toNat = m at hb
      have e : IntKind.i64.wrap (m : Int) = if (m : Int) % 2 ^ 64 ≥ 2 ^ 63 then (m : Int) % 2 ^ 64 - 2 ^ 64 else (m : Int) % 2 ^ 64 := by
        simp [IntKind.wrap, IntKind.signed, IntKind.bits]
      rw [e]; split <;> omega
    refine hw.trans ?_
    have hn2 : (BitVec.ofInt 64 n).toNat = (n % 2 ^ 64).toNat := by rw [BitVec.toNat_ofInt]; rfl
    constructor
    · intro h0
      have hx : ∀ i, 1 ≤ i → (BitVec.ofInt 64 n).toNat.testBit i = false := by
        intro i hi
        have h1 : (BitVec.ofInt 64 n &&& ~~~BitVec.ofInt 64 (1 : Int)).getLsbD i = false := by
          rw [BitVec.getLsbD, h0]; simp
        rw [BitVec.getLsbD_and, BitVec.getLsbD_not] at h1
        by_cases hi2 : i < 64
        · have h2 : (BitVec.ofInt 64 (1 : Int)).getLsbD i = false := by
            have : BitVec.ofInt 64 (1 : Int) = 1#64 := rfl
            rw [this, BitVec.getLsbD_one]; simp; omega
          rw [h2] at h1
          simp only [hi2, decide_true, Bool.not_false, Bool.and_true] at h1
          exact h1
        · exact Nat.testBit_lt_two_pow (Nat.lt_of_lt_of_le (BitVec.isLt _) (Nat.pow_le_pow_right (by decide) (by omega)))
      have hlt : (BitVec.ofInt 64 n).toNat < 2 ^ 1 := Nat.lt_pow_two_of_testBit _ hx
      omega
    · intro h
      rcases h with rfl | rfl <;> decide
  rw [Bool.eq_iff_iff, beq_iff_eq, decide_eq_true_eq]
  exact key
theorem value_Right_spec (v : Val) (hv : WS .val v) : value_Right_fn v = some (value_Right v) := by
  have hr : runeP V_value_odd = fun c => decide (c < 32) || decide (126 < c) := by
    funext c; unfold runeP; rw [V_odd_run]; rfl
  have hI : (strings_IndexFunc v.s V_value_odd < 0) ↔ ∀ b ∈ v.s.toList, 32 ≤ b.toNat ∧ b.toNat ≤ 126 := by
    unfold strings_IndexFunc idxF
    rw [odd_idx (by rw [hr]; intro c; rfl) v.s v.s.size 0 (by omega)]
    simp
  have hN := hv.val_n
  unfold value_Right_fn value_Right rightV
  simp only [beq_iff_eq, odd_runes, if_true, empty_eq, num_In_spec, decide_eq_true_eq, and_not_one hN]
  by_cases h3 : v.kind = 3
  · by_cases h0 : v.n = 0
    · by_cases hs : v.s.size ≤ 100
      · have hs' : (v.s.size : Int) ≤ 100 := by omega
        have : (v.s.toList.all fun b => decide (32 ≤ b.toNat ∧ b.toNat ≤ 126)) = decide (strings_IndexFunc v.s V_value_odd < 0) := by
          rw [Bool.eq_iff_iff, decide_eq_true_eq, hI]; simp
        simp only [h3, h0, hs, hs', plainB, this]; simp
      · have hs' : ¬ (v.s.size : Int) ≤ 100 := by omega
        simp [h3, h0, hs, hs', plainB]
    · simp [h3, h0]
  · by_cases hs : v.s.size = 0
    · by_cases k0 : v.kind = 0
      · simp [k0, hs]; rfl
      · by_cases k1 : v.kind = 1
        · simp [k1, hs]
        · by_cases k2 : v.kind = 2
          · simp [k2, hs]
          · simp [h3, k0, k1, k2, hs]
    · simp [h3, hs]
def F_value_Right : FnC Un := fun args => match args with
  | [x0] => (dS .val x0).bind fun v => some ([], A_value_Right (value_Right v), O_value_Right (value_Right v))
  | _ => none
theorem ok_value_Right : FnOK 100 F_value_Right := by
  intro args ob rs os h hob
  unfold F_value_Right at h
  split at h
  · simp only [Option.bind_eq_some_iff, Option.some.injEq, Prod.mk.injEq] at h
    obtain ⟨v, e0, rfl, rfl, rfl⟩ := h
    obtain rfl := dS_eq e0
    exact ⟨fn_contract (M := M_value_Right) rfl (tbl_ok (l1 := [(148, F_strings_IndexFunc), (150, F_num_In)]) (l2 := [(149, V_value_odd)]) (l3 := []) (l4 := []) (l5 := []) ⟨ok_strings_IndexFunc, ok_num_In, trivial⟩ ⟨okV_value_odd, trivial⟩ trivial trivial trivial) Tryz.func100 (by kernel_rfl) N_value_Right 0 [.d] (fun hwf => value_Right_run (value_Right_spec v (wfArg hwf (a := .d (.agg (enc Ty.val v))) (List.mem_of_getElem? (i := 0) rfl)))), hasBody_of Tryz.func100 (by kernel_rfl) (by kernel_rfl)⟩
  · simp at h
end
end Go.Proofs.YtmpnompddfhkeaaGreat.B
namespace Go.Proofs.YtmpnompddfhkeaaGreat.B
open Go Go.RowKit
set_option maxRecDepth 100000
noncomputable section
attribute [local irreducible] awp ctxK itersK iterK retQ retGQ awf ctxF loopF
def popW : Nat → Nat → Nat
  | 0, _ => 0
  | w + 1, s => s % 2 + popW w (s / 2)
def depW : Nat → Nat → Nat → Nat
  | 0, _, _ => 0
  | w + 1, r, k => if r % 2 = 1 then 2 * depW w (r / 2) (k / 2) + k % 2 else 2 * depW w (r / 2) k
def placesW : Nat → Nat → Nat → List Nat
  | 0, _, _ => []
  | w + 1, off, s => if s % 2 = 1 then off :: placesW w (off + 1) (s / 2) else placesW w (off + 1) (s / 2)
theorem and_two (a b : Nat) : a &&& b = 2 * (a / 2 &&& b / 2) + (if a % 2 = 1 ∧ b % 2 = 1 then 1 else 0) := by
  have h1 : (a &&& b) / 2 = (a / 2 &&& b / 2) := Nat.and_div_two
  have h2 := @Nat.and_mod_two_eq_one a b
  have h3 : (a &&& b) % 2 < 2 := Nat.mod_lt _ (by decide)
  split
  · rename_i h; have := h2.2 h; omega
  · rename_i h
    have : ¬ (a &&& b) % 2 = 1 := fun e => h (h2.1 e)
    omega
theorem popW_le : ∀ (w s : Nat), popW w s ≤ w
  | 0, _ => Nat.le_refl _
  | w + 1, s => by have := popW_le w (s / 2); simp only [popW]; omega
theorem popW_zero : ∀ w, popW w 0 = 0
  | 0 => rfl
  | w + 1 => by simp only [popW, Nat.zero_mod, Nat.zero_div, popW_zero w]
theorem kern_pop : ∀ {w s : Nat}, s < 2 ^ w → 0 < s → popW w (s &&& (s - 1)) + 1 = popW w s
  | 0, s, h, h0 => by simp at h; omega
  | w + 1, s, h, h0 => by
    rw [Nat.pow_succ] at h
    rw [and_two]
    by_cases e : s % 2 = 1
    · have e1 : ¬ (s % 2 = 1 ∧ (s - 1) % 2 = 1) := by omega
      have e2 : (s - 1) / 2 = s / 2 := by omega
      rw [if_neg e1, e2, Nat.and_self]
      simp only [popW, Nat.add_zero]
      have e3 : 2 * (s / 2) % 2 = 0 := by omega
      have e4 : 2 * (s / 2) / 2 = s / 2 := by omega
      rw [e3, e4]; omega
    · have e1 : ¬ (s % 2 = 1 ∧ (s - 1) % 2 = 1) := by omega
      have e2 : (s - 1) / 2 = s / 2 - 1 := by omega
      rw [if_neg e1, e2]
      simp only [popW, Nat.add_zero]
      have e3 : 2 * (s / 2 &&& (s / 2 - 1)) % 2 = 0 := by omega
      have e4 : 2 * (s / 2 &&& (s / 2 - 1)) / 2 = (s / 2 &&& (s / 2 - 1)) := by omega
      have := kern_pop (w := w) (s := s / 2) (by omega) (by omega)
      rw [e3, e4]; omega
theorem kern_lt {s : Nat} (h : 0 < s) : (s &&& (s - 1)) < s := by
  have : s &&& (s - 1) ≤ s - 1 := Nat.and_le_right
  omega
theorem low_kern : ∀ {w s : Nat}, s < 2 ^ w → 0 < s → (s &&& (2 ^ w - s)) + (s &&& (s - 1)) = s
  | 0, s, h, h0 => by simp at h; omega
  | w + 1, s, h, h0 => by
    rw [Nat.pow_succ] at h ⊢
    rw [and_two s (2 ^ w * 2 - s), and_two s (s - 1)]
    by_cases e : s % 2 = 1
    · have e1 : ¬ (s % 2 = 1 ∧ (s - 1) % 2 = 1) := by omega
      have e2 : (s - 1) / 2 = s / 2 := by omega
      have e3 : s % 2 = 1 ∧ (2 ^ w * 2 - s) % 2 = 1 := by omega
      have e4 : (2 ^ w * 2 - s) / 2 = 2 ^ w - 1 - s / 2 := by omega
      rw [if_neg e1, if_pos e3, e2, e4, Nat.and_self]
      have : s / 2 &&& (2 ^ w - 1 - s / 2) = 0 := by
        apply Nat.eq_of_testBit_eq
        intro i
        rw [Nat.testBit_and, Nat.zero_testBit]
        by_cases hi : i < w
        · have hs : s / 2 < 2 ^ w := by omega
          have := Nat.testBit_two_pow_sub_succ hs i
          rw [show 2 ^ w - 1 - s / 2 = 2 ^ w - (s / 2 + 1) by omega, this]
          cases (s / 2).testBit i <;> simp
        · have hs : s / 2 < 2 ^ i := Nat.lt_of_lt_of_le (by omega) (Nat.pow_le_pow_right (by decide) (by omega : w ≤ i))
          rw [Nat.testBit_lt_two_pow hs]; rfl
      omega
    · have e1 : ¬ (s % 2 = 1 ∧ (s - 1) % 2 = 1) := by omega
      have e2 : (s - 1) / 2 = s / 2 - 1 := by omega
      have e3 : ¬ (s % 2 = 1 ∧ (2 ^ w * 2 - s) % 2 = 1) := by omega
      have e4 : (2 ^ w * 2 - s) / 2 = 2 ^ w - s / 2 := by omega
      rw [if_neg e1, if_neg e3, e2, e4]
      have := low_kern (w := w) (s := s / 2) (by omega) (by omega)
      omega
theorem depW_lt : ∀ (w r k : Nat), depW w r k < 2 ^ w
  | 0, _, _ => by simp [depW]
  | w + 1, r, k => by
    have h1 := depW_lt w (r / 2) (k / 2); have h2 := depW_lt w (r / 2) k
    rw [Nat.pow_succ]
    simp only [depW]; split <;> omega
theorem depW_zero : ∀ (w r : Nat), depW w r 0 = 0
  | 0, _ => rfl
  | w + 1, r => by simp only [depW, Nat.zero_div, Nat.zero_mod, depW_zero w]; split <;> rfl
theorem mul2_mod (w a c : Nat) (hc : c < 2) : (2 * a + c) % (2 ^ w * 2) = 2 * (a % 2 ^ w) + c := by
  have h1 := Nat.mod_lt a (Nat.two_pow_pos w)
  have h2 := Nat.div_add_mod a (2 ^ w)
  have h3 : 2 * a + c = (2 ^ w * 2) * (a / 2 ^ w) + (2 * (a % 2 ^ w) + c) := by
    have h4 : 2 ^ w * 2 * (a / 2 ^ w) = 2 * (2 ^ w * (a / 2 ^ w)) := by rw [Nat.mul_comm (2 ^ w) 2, Nat.mul_assoc]
    rw [h4]; omega
  rw [h3, Nat.mul_add_mod, Nat.mod_eq_of_lt (by omega)]
theorem dep_same : ∀ (w r k : Nat), r < 2 ^ w → ((depW w r k + (2 ^ w - 1 - r)) % 2 ^ w &&& r) = depW w r k
  | 0, r, k, h => by simp at h; subst h; simp [depW]
  | w + 1, r, k, h => by
    rw [Nat.pow_succ] at h ⊢
    have hd1 := depW_lt w (r / 2) (k / 2)
    have hd2 := depW_lt w (r / 2) k
    have hmul : ∀ (a c : Nat), c < 2 → (2 * a + c) % (2 ^ w * 2) = 2 * (a % 2 ^ w) + c := fun a c hc => mul2_mod w a c hc
    by_cases e : r % 2 = 1
    · simp only [depW, if_pos e]
      have e1 : 2 * depW w (r / 2) (k / 2) + k % 2 + (2 ^ w * 2 - 1 - r) = 2 * (depW w (r / 2) (k / 2) + (2 ^ w - 1 - r / 2)) + k % 2 := by omega
      rw [e1, hmul _ _ (by omega), and_two]
      have e2 : (2 * ((depW w (r / 2) (k / 2) + (2 ^ w - 1 - r / 2)) % 2 ^ w) + k % 2) / 2 = (depW w (r / 2) (k / 2) + (2 ^ w - 1 - r / 2)) % 2 ^ w := by omega
      rw [e2, dep_same w (r / 2) (k / 2) (by omega)]
      split <;> omega
    · simp only [depW, if_neg e]
      have e1 : 2 * depW w (r / 2) k + (2 ^ w * 2 - 1 - r) = 2 * (depW w (r / 2) k + (2 ^ w - 1 - r / 2)) + 1 := by omega
      rw [e1, hmul _ _ (by omega), and_two]
      have e2 : (2 * ((depW w (r / 2) k + (2 ^ w - 1 - r / 2)) % 2 ^ w) + 1) / 2 = (depW w (r / 2) k + (2 ^ w - 1 - r / 2)) % 2 ^ w := by omega
      rw [e2, dep_same w (r / 2) k (by omega), if_neg (by omega)]; rfl
theorem dep_next : ∀ (w r k : Nat), r < 2 ^ w → ((depW w r k + (2 ^ w - 1 - r) + 1) % 2 ^ w &&& r) = depW w r (k + 1)
  | 0, r, k, h => by simp at h; subst h; simp [depW]
  | w + 1, r, k, h => by
    rw [Nat.pow_succ] at h ⊢
    have hd1 := depW_lt w (r / 2) (k / 2)
    have hd2 := depW_lt w (r / 2) k
    have hmul : ∀ a : Nat, (2 * a) % (2 ^ w * 2) = 2 * (a % 2 ^ w) := fun a => mul2_mod w a 0 (by decide)
    have hmul1 : ∀ a : Nat, (2 * a + 1) % (2 ^ w * 2) = 2 * (a % 2 ^ w) + 1 := fun a => mul2_mod w a 1 (by decide)
    by_cases e : r % 2 = 1
    · simp only [depW, if_pos e]
      by_cases b : k % 2 = 1
      · have ih := dep_next w (r / 2) (k / 2) (by omega)
        have e1 : 2 * depW w (r / 2) (k / 2) + k % 2 + (2 ^ w * 2 - 1 - r) + 1 = 2 * (depW w (r / 2) (k / 2) + (2 ^ w - 1 - r / 2) + 1) := by omega
        rw [e1, hmul, and_two]
        have e2 : 2 * ((depW w (r / 2) (k / 2) + (2 ^ w - 1 - r / 2) + 1) % 2 ^ w) / 2 = (depW w (r / 2) (k / 2) + (2 ^ w - 1 - r / 2) + 1) % 2 ^ w := by omega
        rw [e2, ih, if_neg (by omega)]
        have e3 : (k + 1) / 2 = k / 2 + 1 := by omega
        have e4 : (k + 1) % 2 = 0 := by omega
        rw [e3, e4]
      · have e1 : 2 * depW w (r / 2) (k / 2) + k % 2 + (2 ^ w * 2 - 1 - r) + 1 = 2 * (depW w (r / 2) (k / 2) + (2 ^ w - 1 - r / 2)) + 1 := by omega
        rw [e1, hmul1, and_two]
        have e2 : (2 * ((depW w (r / 2) (k / 2) + (2 ^ w - 1 - r / 2)) % 2 ^ w) + 1) / 2 = (depW w (r / 2) (k / 2) + (2 ^ w - 1 - r / 2)) % 2 ^ w := by omega
        rw [e2, dep_same w (r / 2) (k / 2) (by omega), if_pos (by omega)]
        have e3 : (k + 1) / 2 = k / 2 := by omega
        have e4 : (k + 1) % 2 = 1 := by omega
        rw [e3, e4]
    · simp only [depW, if_neg e]
      have ih := dep_next w (r / 2) k (by omega)
      have e1 : 2 * depW w (r / 2) k + (2 ^ w * 2 - 1 - r) + 1 = 2 * (depW w (r / 2) k + (2 ^ w - 1 - r / 2) + 1) := by omega
      rw [e1, hmul, and_two]
      have e2 : 2 * ((depW w (r / 2) k + (2 ^ w - 1 - r / 2) + 1) % 2 ^ w) / 2 = (depW w (r / 2) k + (2 ^ w - 1 - r / 2) + 1) % 2 ^ w := by omega
      rw [e2, ih, if_neg (by omega)]; rfl
theorem places_bits : ∀ (w off s : Nat), placesW w off s = ((List.range' off w).filter fun i => s.testBit (i - off))
  | 0, _, _ => rfl
  | w + 1, off, s => by
    simp only [placesW]
    rw [List.range'_succ, List.filter_cons]
    have h0 : s.testBit (off - off) = decide (s % 2 = 1) := by rw [Nat.sub_self, Nat.testBit_zero]
    have hr : (List.range' (off + 1) w).filter (fun i => s.testBit (i - off)) = (List.range' (off + 1) w).filter (fun i => (s / 2).testBit (i - (off + 1))) := by
      refine List.filter_congr fun i hi => ?_
      have : off + 1 ≤ i := (List.mem_range'_1.1 hi).1
      rw [show i - off = (i - (off + 1)) + 1 by omega, Nat.testBit_succ]
    rw [h0, hr, places_bits w (off + 1) (s / 2)]
    by_cases e : s % 2 = 1
    · rw [if_pos e, if_pos (by simpa using e)]
    · rw [if_neg e, if_neg (by simpa using e)]
theorem dep_all : ∀ (w r : Nat), r < 2 ^ w → depW w r (2 ^ popW w r - 1) = r
  | 0, r, h => by simp at h; subst h; rfl
  | w + 1, r, h => by
    rw [Nat.pow_succ] at h
    simp only [depW, popW]
    have ih := dep_all w (r / 2) (by omega)
    by_cases e : r % 2 = 1
    · rw [if_pos e, e]
      have h1 : (2 ^ (1 + popW w (r / 2)) - 1) / 2 = 2 ^ popW w (r / 2) - 1 := by rw [Nat.pow_add]; omega
      have h2 : (2 ^ (1 + popW w (r / 2)) - 1) % 2 = 1 := by have := Nat.two_pow_pos (popW w (r / 2)); rw [Nat.pow_add]; omega
      rw [h1, h2, ih]; omega
    · have e0 : r % 2 = 0 := by omega
      rw [if_neg e, e0, Nat.zero_add, ih]; omega
theorem dep_mono : ∀ (w r k k' : Nat), k < k' → k' < 2 ^ popW w r → depW w r k < depW w r k'
  | 0, r, k, k', h, h' => by simp [popW] at h'; omega
  | w + 1, r, k, k', h, h' => by
    simp only [depW]
    simp only [popW] at h'
    by_cases e : r % 2 = 1
    · rw [e, Nat.pow_add] at h'
      rw [if_pos e, if_pos e]
      rcases Nat.lt_or_ge (k / 2) (k' / 2) with g | g
      · have := dep_mono w (r / 2) (k / 2) (k' / 2) g (by omega); omega
      · have e1 : k / 2 = k' / 2 := by omega
        rw [e1]; omega
    · have e0 : r % 2 = 0 := by omega
      rw [e0, Nat.zero_add] at h'
      rw [if_neg e, if_neg e]
      have := dep_mono w (r / 2) k k' h h'; omega
theorem dep_sub : ∀ (w r k : Nat), depW w r k &&& r = depW w r k
  | 0, r, k => by simp [depW]
  | w + 1, r, k => by
    simp only [depW]
    split
    · rename_i e
      rw [and_two]
      have e2 : (2 * depW w (r / 2) (k / 2) + k % 2) / 2 = depW w (r / 2) (k / 2) := by omega
      rw [e2, dep_sub w (r / 2) (k / 2)]
      split <;> omega
    · rename_i e
      rw [and_two]
      have e2 : (2 * depW w (r / 2) k) / 2 = depW w (r / 2) k := by omega
      rw [e2, dep_sub w (r / 2) k, if_neg (by omega)]; rfl
end
end Go.Proofs.YtmpnompddfhkeaaGreat.B
namespace Go.Proofs.YtmpnompddfhkeaaGreat.B
open Go Go.RowKit
set_option maxRecDepth 100000
noncomputable section
attribute [local irreducible] awp ctxK itersK iterK retQ retGQ awf ctxF loopF
theorem bvn (x : Int) : (BitVec.ofInt 64 x).toNat = (x % 18446744073709551616).toNat := BitVec.toNat_ofInt ..
theorem bvn_nat {a : Nat} (h : a < 2 ^ 64) : (BitVec.ofInt 64 (a : Int)).toNat = a := by rw [bvn]; omega
theorem w_nat {a : Nat} (h : a < 2 ^ 63) : IntKind.i64.wrap (a : Int) = (a : Int) := by rw [IntKind.wrap_i64]; omega
theorem w_and {a nb : Nat} {b : Int} (ha : a < 2 ^ 63) (hb : (b % 18446744073709551616).toNat = nb) : IntKind.i64.wrap ((BitVec.ofInt 64 (a : Int) &&& BitVec.ofInt 64 b).toNat : Int) = ((a &&& nb : Nat) : Int) := by
  rw [BitVec.toNat_and, bvn_nat (by omega), bvn, hb, w_nat]
  exact Nat.lt_of_le_of_lt Nat.and_le_left ha
theorem w_and' {a nb : Nat} {b : Int} (ha : a < 2 ^ 63) (hb : (b % 18446744073709551616).toNat = nb) : IntKind.i64.wrap ((BitVec.ofInt 64 b &&& BitVec.ofInt 64 (a : Int)).toNat : Int) = ((nb &&& a : Nat) : Int) := by
  rw [BitVec.and_comm, w_and ha hb, Nat.and_comm]
theorem w_andNat {a b : Nat} (ha : a < 2 ^ 63) (hb : b < 2 ^ 63) : IntKind.i64.wrap ((BitVec.ofInt 64 (a : Int) &&& BitVec.ofInt 64 (b : Int)).toNat : Int) = ((a &&& b : Nat) : Int) := w_and ha (by omega)
theorem w_orNat {a b : Nat} (ha : a < 2 ^ 63) (hb : b < 2 ^ 63) : IntKind.i64.wrap ((BitVec.ofInt 64 (a : Int) ||| BitVec.ofInt 64 (b : Int)).toNat : Int) = ((a ||| b : Nat) : Int) := by
  rw [BitVec.toNat_or, bvn_nat (by omega), bvn_nat (by omega), w_nat (Nat.or_lt_two_pow ha hb)]
theorem w_andnNat {a b : Nat} (ha : a < 2 ^ 63) (hb : b < 2 ^ 63) : IntKind.i64.wrap ((BitVec.ofInt 64 (a : Int) &&& ~~~BitVec.ofInt 64 (b : Int)).toNat : Int) = ((a &&& (2 ^ 64 - 1 - b) : Nat) : Int) := by
  rw [BitVec.toNat_and, BitVec.toNat_not, bvn_nat (by omega), bvn_nat (by omega), w_nat (Nat.lt_of_le_of_lt Nat.and_le_left ha)]
theorem bit_high {w m i : Nat} (h : m < 2 ^ w) (hi : w ≤ i) : m.testBit i = false := Nat.testBit_lt_two_pow (Nat.lt_of_lt_of_le h (Nat.pow_le_pow_right (by decide) hi))
theorem and_sub : ∀ (w r m : Nat), r < 2 ^ w → m &&& r = m → (r &&& (2 ^ w - 1 - m)) = r - m
  | 0, r, m, h, _ => by simp at h; subst h; simp
  | w + 1, r, m, h, hm => by
    rw [Nat.pow_succ] at h ⊢
    have hm2 := hm
    rw [and_two] at hm2
    have hmr : m ≤ r := by rw [← hm]; exact Nat.and_le_right
    have h1 : m / 2 &&& r / 2 = m / 2 := by
      have := @Nat.and_div_two m r
      rw [hm] at this; exact this.symm
    have ih := and_sub w (r / 2) (m / 2) (by omega) h1
    have hb : m % 2 = 1 → r % 2 = 1 := by
      intro e
      have := (@Nat.and_mod_two_eq_one m r).1 (by rw [hm]; exact e)
      exact this.2
    rw [and_two]
    have e1 : (2 ^ w * 2 - 1 - m) / 2 = 2 ^ w - 1 - m / 2 := by omega
    rw [e1, ih]
    by_cases hr : r % 2 = 1
    · by_cases hm1 : m % 2 = 1
      · rw [if_neg (by omega)]; omega
      · rw [if_pos (by omega)]; omega
    · rw [if_neg (by omega)]; omega
theorem or_two (a b : Nat) : a ||| b = 2 * (a / 2 ||| b / 2) + (if a % 2 = 1 ∨ b % 2 = 1 then 1 else 0) := by
  have h1 : (a ||| b) / 2 = (a / 2 ||| b / 2) := Nat.or_div_two
  have h2 := @Nat.or_mod_two_eq_one a b
  have h3 : (a ||| b) % 2 < 2 := Nat.mod_lt _ (by decide)
  split
  · rename_i h; have := h2.2 h; omega
  · rename_i h
    have : ¬ (a ||| b) % 2 = 1 := fun e => h (h2.1 e)
    omega
theorem or_add : ∀ (w a b : Nat), a < 2 ^ w → b < 2 ^ w → a &&& b = 0 → a ||| b = a + b
  | 0, a, b, h, h', _ => by simp at h h'; subst h h'; rfl
  | w + 1, a, b, h, h', hab => by
    rw [Nat.pow_succ] at h h'
    have h1 : a / 2 &&& b / 2 = 0 := by
      have := @Nat.and_div_two a b
      rw [hab] at this; exact this.symm
    have ih := or_add w (a / 2) (b / 2) (by omega) (by omega) h1
    have hb : ¬ (a % 2 = 1 ∧ b % 2 = 1) := by
      intro e
      have := (@Nat.and_mod_two_eq_one a b).2 e
      rw [hab] at this; simp at this
    rw [or_two, ih]
    split <;> omega
theorem places_low : ∀ (w off s : Nat), s < 2 ^ w → 0 < s → ∃ p, placesW w off s = p :: placesW w off (s &&& (s - 1)) ∧ off ≤ p ∧ p < off + w ∧ 2 ^ (p - off) + (s &&& (s - 1)) = s
  | 0, off, s, h, h0 => by simp at h; omega
  | w + 1, off, s, h, h0 => by
    rw [Nat.pow_succ] at h
    rw [and_two]
    by_cases e : s % 2 = 1
    · have e1 : ¬ (s % 2 = 1 ∧ (s - 1) % 2 = 1) := by omega
      have e2 : (s - 1) / 2 = s / 2 := by omega
      rw [if_neg e1, e2, Nat.and_self]
      refine ⟨off, ?_, Nat.le_refl _, by omega, by rw [Nat.sub_self]; omega⟩
      simp only [placesW, if_pos e]
      have e3 : ¬ (2 * (s / 2) + 0) % 2 = 1 := by omega
      have e4 : (2 * (s / 2) + 0) / 2 = s / 2 := by omega
      rw [if_neg e3, e4]
    · have e1 : ¬ (s % 2 = 1 ∧ (s - 1) % 2 = 1) := by omega
      have e2 : (s - 1) / 2 = s / 2 - 1 := by omega
      rw [if_neg e1, e2]
      obtain ⟨p, h1, h2, h3, h4⟩ := places_low w (off + 1) (s / 2) (by omega) (by omega)
      refine ⟨p, ?_, by omega, by omega, ?_⟩
      · simp only [placesW, if_neg e]
        have e3 : ¬ (2 * (s / 2 &&& s / 2 - 1) + 0) % 2 = 1 := by omega
        have e4 : (2 * (s / 2 &&& s / 2 - 1) + 0) / 2 = (s / 2 &&& s / 2 - 1) := by omega
        rw [if_neg e3, e4]; exact h1
      · rw [show p - off = (p - (off + 1)) + 1 by omega, Nat.pow_succ]; omega
def lowN (s : Nat) : Nat := s &&& (2 ^ 64 - s)
def restN (s : Nat) : Nat := s &&& (s - 1)
def splitN (s k : Nat) : Int × Int := (((lowN s + depW 64 (restN s) k : Nat) : Int), ((restN s - depW 64 (restN s) k : Nat) : Int))
def splitsA (set : Int) : List (Int × Int) := if set ≤ 0 ∨ popW 64 set.toNat < 2 ∨ popW 64 set.toNat > 8 then [] else (List.range (2 ^ (popW 64 set.toNat - 1) - 1)).map (splitN set.toNat)
theorem low_rest {s : Nat} (h : s < 2 ^ 63) (h0 : 0 < s) : lowN s + restN s = s := low_kern (w := 64) (by omega) h0
theorem rest_lt {s : Nat} (h0 : 0 < s) : restN s < s := kern_lt h0
theorem rest_pop {s : Nat} (h : s < 2 ^ 63) (h0 : 0 < s) : popW 64 (restN s) + 1 = popW 64 s := kern_pop (by omega) h0
theorem low_and_rest {s : Nat} (h : s < 2 ^ 63) (h0 : 0 < s) : lowN s &&& restN s = 0 := by
  obtain ⟨p, h1, _, h3, h4⟩ := places_low 64 0 s (by omega) h0
  have e : lowN s = 2 ^ p := by have := low_rest h h0; unfold restN at this; rw [Nat.sub_zero] at h4; omega
  have hb := places_bits 64 0 (restN s)
  have hb2 := places_bits 64 0 s
  have hr : (restN s).testBit p = false := by
    cases hc : (restN s).testBit p with
    | false => rfl
    | true =>
      exfalso
      have hm : p ∈ placesW 64 0 (restN s) := by
        rw [hb, List.mem_filter, List.mem_range'_1]
        exact ⟨by omega, by rw [Nat.sub_zero]; exact hc⟩
      have hn : (placesW 64 0 s).Pairwise (· < ·) := by rw [hb2]; exact List.Pairwise.filter _ List.pairwise_lt_range'
      rw [h1] at hn
      have := (List.pairwise_cons.1 hn).1 p hm
      omega
  rw [e]
  apply Nat.eq_of_testBit_eq
  intro i
  rw [Nat.testBit_and, Nat.zero_testBit, Nat.testBit_two_pow]
  by_cases hi : p = i
  · subst hi; rw [hr, Bool.and_false]
  · simp [hi]
theorem dep_all64 {s : Nat} (h : s < 2 ^ 63) (h0 : 0 < s) : depW 64 (restN s) (2 ^ (popW 64 s - 1) - 1) = restN s := by
  have e : popW 64 s - 1 = popW 64 (restN s) := by have := rest_pop h h0; omega
  rw [e]
  exact dep_all 64 (restN s) (by have := rest_lt h0; omega)
theorem dep_lt_rest {s k : Nat} (h : s < 2 ^ 63) (h0 : 0 < s) (hk : k < 2 ^ (popW 64 s - 1) - 1) : depW 64 (restN s) k < restN s := by
  have e : popW 64 s - 1 = popW 64 (restN s) := by have := rest_pop h h0; omega
  have := dep_mono 64 (restN s) k (2 ^ (popW 64 s - 1) - 1) hk (by rw [← e]; omega)
  rw [dep_all64 h h0] at this
  exact this
theorem dep_le_rest (s k : Nat) : depW 64 (restN s) k ≤ restN s := by
  have := dep_sub 64 (restN s) k
  rw [← this]; exact Nat.and_le_right
theorem low_dep {s k : Nat} (h : s < 2 ^ 63) (h0 : 0 < s) : lowN s &&& depW 64 (restN s) k = 0 := by
  have h1 := low_and_rest h h0
  have h2 := dep_sub 64 (restN s) k
  rw [← h2, Nat.and_comm (depW 64 (restN s) k), ← Nat.and_assoc, h1, Nat.zero_and]
theorem low_or {s k : Nat} (h : s < 2 ^ 63) (h0 : 0 < s) : lowN s ||| depW 64 (restN s) k = lowN s + depW 64 (restN s) k := by
  have h1 := low_rest h h0
  have h2 := dep_le_rest s k
  exact or_add 64 _ _ (by omega) (by omega) (low_dep h h0)
theorem rest_andn {s k : Nat} (h : s < 2 ^ 63) (h0 : 0 < s) : restN s &&& (2 ^ 64 - 1 - depW 64 (restN s) k) = restN s - depW 64 (restN s) k :=
  and_sub 64 _ _ (by have := rest_lt h0; omega) (dep_sub 64 _ _)
theorem bit_free {o i : Nat} (h : o < 2 ^ i) : o &&& 2 ^ i = 0 := by
  apply Nat.eq_of_testBit_eq
  intro j
  rw [Nat.testBit_and, Nat.zero_testBit, Nat.testBit_two_pow]
  by_cases e : i = j
  · subst e; rw [bit_high h (Nat.le_refl _)]; rfl
  · simp [e]
theorem or_bit {o i : Nat} (h : o < 2 ^ i) : o ||| 2 ^ i = o + 2 ^ i := or_add (i + 1) _ _ (by rw [Nat.pow_succ]; omega) (by rw [Nat.pow_succ]; have := Nat.two_pow_pos i; omega) (bit_free h)
def nextTo (fr w : Int) : Int := min (fr + min (max w 0) 2147483648) 2147483648
def usesIn (uses : List Int) (fr to : Int) : Bool := uses.any fun a => decide (a ≥ fr ∧ a < to)
def maskGo (uses : List Int) : List Int → Nat → Int → Nat → Nat
  | [], _, _, o => o
  | w :: r, i, fr, o => maskGo uses r (i + 1) (nextTo fr w) (if usesIn uses fr (nextTo fr w) = true then o + 2 ^ i else o)
def maskA (uses widths : List Int) : Nat := maskGo uses (widths.take 62) 0 0 0
theorem nextTo_ge {fr w : Int} (h : fr ≤ 2147483648) : fr ≤ nextTo fr w ∧ nextTo fr w ≤ 2147483648 := by unfold nextTo; omega
theorem k_and {a nb : Nat} {b : Int} (ha : a < 2 ^ 63) (hb : (b % 18446744073709551616).toNat = nb) : IntKind.i64.wrap ((BitVec.ofInt IntKind.i64.bits (a : Int) &&& BitVec.ofInt IntKind.i64.bits b).toNat : Int) = ((a &&& nb : Nat) : Int) := w_and ha hb
theorem k_and' {a nb : Nat} {b : Int} (ha : a < 2 ^ 63) (hb : (b % 18446744073709551616).toNat = nb) : IntKind.i64.wrap ((BitVec.ofInt IntKind.i64.bits b &&& BitVec.ofInt IntKind.i64.bits (a : Int)).toNat : Int) = ((nb &&& a : Nat) : Int) := w_and' ha hb
theorem k_andNat {a b : Nat} (ha : a < 2 ^ 63) (hb : b < 2 ^ 63) : IntKind.i64.wrap ((BitVec.ofInt IntKind.i64.bits (a : Int) &&& BitVec.ofInt IntKind.i64.bits (b : Int)).toNat : Int) = ((a &&& b : Nat) : Int) := w_andNat ha hb
theorem k_orNat {a b : Nat} (ha : a < 2 ^ 63) (hb : b < 2 ^ 63) : IntKind.i64.wrap ((BitVec.ofInt IntKind.i64.bits (a : Int) ||| BitVec.ofInt IntKind.i64.bits (b : Int)).toNat : Int) = ((a ||| b : Nat) : Int) := w_orNat ha hb
theorem k_andnNat {a b : Nat} (ha : a < 2 ^ 63) (hb : b < 2 ^ 63) : IntKind.i64.wrap ((BitVec.ofInt IntKind.i64.bits (a : Int) &&& ~~~BitVec.ofInt IntKind.i64.bits (b : Int)).toNat : Int) = ((a &&& (2 ^ 64 - 1 - b) : Nat) : Int) := w_andnNat ha hb
theorem k_shl {n : Nat} (h : n < 63) : IntKind.i64.wrap ((1 : Int) * (2 : Int) ^ min n IntKind.i64.bits) = ((2 ^ n : Nat) : Int) := by
  have e : min n IntKind.i64.bits = n := Nat.min_eq_left (by show n ≤ 64; omega)
  rw [e, Int.one_mul]
  have e2 : (2 : Int) ^ n = ((2 ^ n : Nat) : Int) := by rw [Int.natCast_pow]; rfl
  rw [e2, w_nat (Nat.pow_lt_pow_right (by decide) h)]
def linkB (m a b : Int) : Bool := (IntKind.i64.wrap ((BitVec.ofInt IntKind.i64.bits m &&& BitVec.ofInt IntKind.i64.bits a).toNat : Int) != (0 : Int)) && ((IntKind.i64.wrap ((BitVec.ofInt IntKind.i64.bits m &&& BitVec.ofInt IntKind.i64.bits b).toNat : Int) != (0 : Int)) && (IntKind.i64.wrap ((BitVec.ofInt IntKind.i64.bits m &&& ~~~BitVec.ofInt IntKind.i64.bits (IntKind.i64.wrap ((BitVec.ofInt IntKind.i64.bits a ||| BitVec.ofInt IntKind.i64.bits b).toNat : Int))).toNat : Int) == (0 : Int)))
theorem low_sub (s : Nat) : lowN s &&& s = lowN s := by
  unfold lowN
  rw [Nat.and_comm, ← Nat.and_assoc, Nat.and_self]
end
end Go.Proofs.YtmpnompddfhkeaaGreat.B
namespace Go.Proofs.YtmpnompddfhkeaaGreat.B
open Go Go.RowKit
set_option maxRecDepth 100000
noncomputable section
attribute [local irreducible] awp ctxK itersK iterK retQ retGQ awf ctxF loopF
def M_algebra_kids : Mc Un := mach (tbl []) (tbl []) (tbl []) (tbl []) (tbl [])
def A_algebra_kids (r : Int) : List (A Un) := [.c (.s (.int .i64 r))]
def O_algebra_kids (_r : Int) : List (Ob Un) := []
def R_algebra_kids (r : Int) : RF Un := (A_algebra_kids r, O_algebra_kids r)
def N_algebra_kids : Nat → NS := fun l => (look l []).getD ⟨[], [], [], [], []⟩
def algebra_kids_fn (op : Int) : Option (RF Un) := awf M_algebra_kids N_algebra_kids (bodyOf Tryz.f23) (entry Tryz.f23.ntmps 0 [.d (.v (.s (.int .i64 op)))]) (retF M_algebra_kids Tryz.f23.results.toList [.d])
def algebra_kids_t1 (op : Int) : Option (RF Un) :=
 cndO (op == 5)
  (cndO (op == 5)
   (some (R_algebra_kids ((2 : Int))))
   (some (R_algebra_kids ((-1 : Int)))))
  (cndO (op == 6)
   (cndO (op == 6)
    (some (R_algebra_kids ((2 : Int))))
    (some (R_algebra_kids ((-1 : Int)))))
   (cndO (op == 9)
    (cndO (op == 9)
     (some (R_algebra_kids ((2 : Int))))
     (some (R_algebra_kids ((-1 : Int)))))
    (cndO (op == 10)
     (cndO (op == 10)
      (some (R_algebra_kids ((2 : Int))))
      (some (R_algebra_kids ((-1 : Int)))))
     (cndO (op == 11)
      (some (R_algebra_kids ((2 : Int))))
      (some (R_algebra_kids ((-1 : Int))))))))
def algebra_kids_t2 (op : Int) : Option (RF Un) :=
 cndO (op == 3)
  (cndO (op == 3)
   (some (R_algebra_kids ((1 : Int))))
   (algebra_kids_t1 op))
  (cndO (op == 4)
   (cndO (op == 4)
    (some (R_algebra_kids ((1 : Int))))
    (algebra_kids_t1 op))
   (cndO (op == 7)
    (cndO (op == 7)
     (some (R_algebra_kids ((1 : Int))))
     (algebra_kids_t1 op))
    (cndO (op == 8)
     (cndO (op == 8)
      (some (R_algebra_kids ((1 : Int))))
      (algebra_kids_t1 op))
     (cndO (op == 12)
      (cndO (op == 12)
       (some (R_algebra_kids ((1 : Int))))
       (algebra_kids_t1 op))
      (cndO (op == 13)
       (some (R_algebra_kids ((1 : Int))))
       (algebra_kids_t1 op))))))
theorem algebra_kids_in (op : Int) : algebra_kids_fn op =
 cndO (op == 1)
  (cndO (op == 1)
   (some (R_algebra_kids ((0 : Int))))
   (algebra_kids_t2 op))
  (cndO (op == 2)
   (some (R_algebra_kids ((0 : Int))))
   (algebra_kids_t2 op)) := by kernel_rfl
def algebra_kids (op : Int) : Int := kidsN op
theorem algebra_kids_spec (op : Int) (_h : WI op) : algebra_kids_fn op = some (R_algebra_kids (algebra_kids op)) := by
  by_cases h1 : op = 1
  · subst h1; rw [algebra_kids_in]; kernel_rfl
  by_cases h2 : op = 2
  · subst h2; rw [algebra_kids_in]; kernel_rfl
  by_cases h3 : op = 3
  · subst h3; rw [algebra_kids_in]; kernel_rfl
  by_cases h4 : op = 4
  · subst h4; rw [algebra_kids_in]; kernel_rfl
  by_cases h5 : op = 5
  · subst h5; rw [algebra_kids_in]; kernel_rfl
  by_cases h6 : op = 6
  · subst h6; rw [algebra_kids_in]; kernel_rfl
  by_cases h7 : op = 7
  · subst h7; rw [algebra_kids_in]; kernel_rfl
  by_cases h8 : op = 8
  · subst h8; rw [algebra_kids_in]; kernel_rfl
  by_cases h9 : op = 9
  · subst h9; rw [algebra_kids_in]; kernel_rfl
  by_cases h10 : op = 10
  · subst h10; rw [algebra_kids_in]; kernel_rfl
  by_cases h11 : op = 11
  · subst h11; rw [algebra_kids_in]; kernel_rfl
  by_cases h12 : op = 12
  · subst h12; rw [algebra_kids_in]; kernel_rfl
  by_cases h13 : op = 13
  · subst h13; rw [algebra_kids_in]; kernel_rfl
  rw [algebra_kids_in]
  unfold algebra_kids_t2 algebra_kids_t1 algebra_kids kidsN
  simp only [cndO_eq, beq_iff_eq, h1, h2, h3, h4, h5, h6, h7, h8, h9, h10, h11, h12, h13, if_false, or_self]
def F_algebra_kids : FnC Un := fun args => match args with
  | [x0] => (dI .i64 x0).bind fun op => some ([], A_algebra_kids (algebra_kids op), O_algebra_kids (algebra_kids op))
  | _ => none
theorem ok_algebra_kids : FnOK 23 F_algebra_kids := by
  intro args ob rs os h hob
  unfold F_algebra_kids at h
  split at h
  · simp only [Option.bind_eq_some_iff, Option.some.injEq, Prod.mk.injEq] at h
    obtain ⟨op, e0, rfl, rfl, rfl⟩ := h
    obtain rfl := dI_eq e0
    exact ⟨fn_contractF (M := M_algebra_kids) rfl (tbl_ok (l1 := []) (l2 := []) (l3 := []) (l4 := []) (l5 := []) trivial trivial trivial trivial trivial) Tryz.func23 (by kernel_rfl) N_algebra_kids 0 [.d] (fun hwf => (algebra_kids_spec op (wfArg hwf (a := .d (.v (.s (.int .i64 op)))) (List.mem_of_getElem? (i := 0) rfl)))), hasBody_of Tryz.func23 (by kernel_rfl) (by kernel_rfl)⟩
  · simp at h
def lvOK (r : Rel) : Prop := r.sz ≤ 2000000 ∧ csR r ≤ 2000000
def graph_joined (r : Rel) : Bool := joinR r
def algebra_Width (r : Rel) : Int := widthR r
theorem aK_eq (op : Int) : algebra_kids op = kidsN op := by unfold algebra_kids; rfl
theorem aW_eq (r : Rel) : algebra_Width r = widthR r := by unfold algebra_Width; rfl
theorem joinR_eq (r : Rel) : joinR r = if r.op = 5 then decide (r.kids.length = 2) else decide (r.op = 3 ∧ r.kids.length = 1) && joinH r.kids := by cases r; simp only [joinR]; rfl
theorem joinH_eq {l : List Rel} (h : 0 < l.length) : joinH l = joinR (l.getD 0 zeroRel) := by
  cases l with
  | nil => simp at h
  | cons x l => rfl
theorem kidsN_one {op : Int} (h : ¬ kidsN op < 0) (h1 : ¬ (op = 1 ∨ op = 2)) : 1 ≤ kidsN op := by
  unfold kidsN at h ⊢
  rw [if_neg h1] at h ⊢
  split
  · omega
  · rename_i h2
    rw [if_neg h2] at h
    split
    · omega
    · rename_i h3
      rw [if_neg h3] at h
      omega
theorem kidsN_two {op : Int} (h : op = 5 ∨ op = 6) : kidsN op = 2 := by
  rcases h with rfl | rfl <;> rfl
def A_graph_joined (r : Bool) : List (A Un) := [.c (.s (.bool r))]
def O_graph_joined (_r : Bool) : List (Ob Un) := []
def Fm_graph_joined (m : Nat) : FnC Un := fun args => match args with
  | [x0] => (dS .rel x0).bind fun r => some ([r.ht < m], A_graph_joined (graph_joined r), O_graph_joined (graph_joined r))
  | _ => none
def M_graph_joined (m : Nat) : Mc Un := mach (tbl [(44, Fm_graph_joined m)]) (tbl []) (tbl []) (tbl []) (tbl [])
def R_graph_joined (r : Bool) : RF Un := (A_graph_joined r, O_graph_joined r)
def N_graph_joined : Nat → NS := fun l => (look l []).getD ⟨[], [], [], [], []⟩
def graph_joined_fn (m : Nat) (r : Rel) : Option (RF Un) := awf (M_graph_joined m) N_graph_joined (bodyOf Tryz.f44) (entry Tryz.f44.ntmps 0 [.d (.agg (enc Ty.rel r))]) (retF (M_graph_joined m) Tryz.f44.results.toList [.d])
theorem graph_joined_in (m : Nat) (r : Rel) : graph_joined_fn m r =
 cndO (r.op == 5)
  (some (R_graph_joined ((↑r.kids.length : Int) == (2 : Int))))
  (cndO (r.op == 3)
   (cndO ((↑r.kids.length : Int) == (1 : Int))
    (obO ((0 : Int) ≤ (0 : Int) ∧ (0 : Int) < (↑r.kids.length : Int))
     (obO ((Rel.ids (r.kids.getD 0 zeroRel)).ht < m)
      (some (R_graph_joined (graph_joined (Rel.ids (r.kids.getD 0 zeroRel)))))))
    (some (R_graph_joined (false))))
   (some (R_graph_joined (false)))) := by kernel_rfl
theorem graph_joined_spec (m : Nat) (r : Rel) (_hr : WS .rel r) (hm : r.ht < m + 1) : graph_joined_fn m r = some (R_graph_joined (graph_joined r)) := by
  rw [graph_joined_in]
  unfold graph_joined
  rw [joinR_eq r]
  simp only [cndO_eq, beq_iff_eq, Rel.ids_eq]
  by_cases h5 : r.op = 5
  · rw [if_pos h5, if_pos h5]
    congr 2
    rw [Bool.eq_iff_iff, beq_iff_eq, decide_eq_true_eq]; omega
  · rw [if_neg h5, if_neg h5]
    by_cases h3 : r.op = 3
    · by_cases hl : r.kids.length = 1
      · have hk := Rel.ht_kid (getD_mem (d := zeroRel) (i := 0) (l := r.kids) (by omega))
        rw [if_pos h3, if_pos (by omega), obO_pos (by omega), obO_pos (by omega), joinH_eq (by omega), decide_eq_true (show r.op = 3 ∧ r.kids.length = 1 from ⟨h3, hl⟩), Bool.true_and]
      · rw [if_pos h3, if_neg (by omega), decide_eq_false (fun e => hl e.2), Bool.false_and]
    · rw [if_neg h3, decide_eq_false (fun e => h3 e.1), Bool.false_and]
theorem okm_graph_joined (m : Nat) (h_graph_joined : FnOK 44 (Fm_graph_joined m)) : FnOK 44 (Fm_graph_joined (m + 1)) := by
  intro args ob rs os h hob
  unfold Fm_graph_joined at h
  split at h
  · simp only [Option.bind_eq_some_iff, Option.some.injEq, Prod.mk.injEq] at h
    obtain ⟨r, e0, rfl, rfl, rfl⟩ := h
    obtain rfl := dS_eq e0
    exact ⟨fn_contractF (M := (M_graph_joined m)) rfl (tbl_ok (l1 := [(44, Fm_graph_joined m)]) (l2 := []) (l3 := []) (l4 := []) (l5 := []) ⟨h_graph_joined, trivial⟩ trivial trivial trivial trivial) Tryz.func44 (by kernel_rfl) N_graph_joined 0 [.d] (fun hwf => (graph_joined_spec m r (wfArg hwf (a := .d (.agg (enc Ty.rel r))) (List.mem_of_getElem? (i := 0) rfl)) (hob _ (List.mem_of_getElem? (i := 0) rfl)))), hasBody_of Tryz.func44 (by kernel_rfl) (by kernel_rfl)⟩
  · simp at h
theorem okAll_joinedG : ∀ m, FnOK 44 (Fm_graph_joined m)
  | 0 => by
    skip
    intro args ob rs os h hob
    unfold Fm_graph_joined at h
    split at h
    · simp only [Option.bind_eq_some_iff, Option.some.injEq, Prod.mk.injEq] at h
      obtain ⟨_, _, rfl, _, _⟩ := h
      exact absurd (hob _ (List.mem_of_getElem? (i := 0) rfl)) (Nat.not_lt_zero _)
    · simp at h
  | m + 1 => by
    have ih := okAll_joinedG m
    exact okm_graph_joined m ih
def F_graph_joined : FnC Un := fun args => match args with
  | [x0] => (dS .rel x0).bind fun r => some ([], A_graph_joined (graph_joined r), O_graph_joined (graph_joined r))
  | _ => none
theorem ok_graph_joined : FnOK 44 F_graph_joined := by
  intro args ob rs os h hob
  unfold F_graph_joined at h
  split at h
  · simp only [Option.bind_eq_some_iff, Option.some.injEq, Prod.mk.injEq] at h
    obtain ⟨r, e0, rfl, rfl, rfl⟩ := h
    refine ((okAll_joinedG (r.ht + 1))) _ [r.ht < r.ht + 1] _ _ (?_ : Fm_graph_joined (r.ht + 1) _ = some _) ?_
    · unfold Fm_graph_joined
      simp only [e0, Option.bind_some]
    · intro p hp
      simp only [List.mem_cons, List.not_mem_nil, or_false] at hp
      subst hp
      exact Nat.lt_succ_self _
  · simp at h
def A_algebra_Width (r : Int) : List (A Un) := [.c (.s (.int .i64 r))]
def O_algebra_Width (_r : Int) : List (Ob Un) := []
def Fm_algebra_Width (m : Nat) : FnC Un := fun args => match args with
  | [x0] => (dS .rel x0).bind fun r => some ([r.ht < m], A_algebra_Width (algebra_Width r), O_algebra_Width (algebra_Width r))
  | _ => none
def M_algebra_Width (m : Nat) : Mc Un := mach (tbl [(23, F_algebra_kids), (24, Fm_algebra_Width m)]) (tbl []) (tbl []) (tbl []) (tbl [])
def R_algebra_Width (r : Int) : RF Un := (A_algebra_Width r, O_algebra_Width r)
def N_algebra_Width : Nat → NS := fun l => (look l []).getD ⟨[], [], [], [], []⟩
def algebra_Width_c1 (r : Rel) := algebra_Width (Rel.mk (Rel.op (r.kids.getD 0 zeroRel)) (Rel.table (r.kids.getD 0 zeroRel)) (Rel.cols (r.kids.getD 0 zeroRel)) (Rel.kids (r.kids.getD 0 zeroRel)) (Rel.terms (r.kids.getD 0 zeroRel)) (Rel.aggs (r.kids.getD 0 zeroRel)) (Rel.keys (r.kids.getD 0 zeroRel)) (Rel.limit (r.kids.getD 0 zeroRel)) (Rel.skip (r.kids.getD 0 zeroRel)) (Rel.all (r.kids.getD 0 zeroRel)) (Rel.rows (r.kids.getD 0 zeroRel)))
def algebra_Width_fn (m : Nat) (r : Rel) : Option (RF Un) := awf (M_algebra_Width m) N_algebra_Width (bodyOf Tryz.f24) (entry Tryz.f24.ntmps 0 [.d (.agg (enc Ty.rel r))]) (retF (M_algebra_Width m) Tryz.f24.results.toList [.d])
def algebra_Width_t1 (m : Nat) (r : Rel) : Option (RF Un) :=
 obO ((0 : Int) ≤ (0 : Int) ∧ (0 : Int) < (↑r.kids.length : Int))
  (obO ((Rel.ids (r.kids.getD 0 zeroRel)).ht < m)
   (obO ((0 : Int) ≤ (1 : Int) ∧ (1 : Int) < (↑r.kids.length : Int))
    (obO ((Rel.ids (r.kids.getD 1 zeroRel)).ht < m)
     (some (R_algebra_Width (IntKind.i64.wrap (algebra_Width (Rel.ids (r.kids.getD 0 zeroRel)) + algebra_Width (Rel.ids (r.kids.getD 1 zeroRel)))))))))
def algebra_Width_t2 (m : Nat) (r : Rel) : Option (RF Un) :=
 cndO (r.op == 4)
  (some (R_algebra_Width ((↑r.terms.length : Int))))
  (cndO (r.op == 7)
   (some (R_algebra_Width (IntKind.i64.wrap ((↑r.terms.length : Int) + (↑r.aggs.length : Int)))))
   (cndO (r.op == 5)
    (cndO (r.op == 5)
     (algebra_Width_t1 m r)
     (obO ((0 : Int) ≤ (0 : Int) ∧ (0 : Int) < (↑r.kids.length : Int))
      (obO ((Rel.ids (r.kids.getD 0 zeroRel)).ht < m)
       (some (R_algebra_Width (algebra_Width_c1 r))))))
    (cndO (r.op == 6)
     (algebra_Width_t1 m r)
     (obO ((0 : Int) ≤ (0 : Int) ∧ (0 : Int) < (↑r.kids.length : Int))
      (obO ((Rel.ids (r.kids.getD 0 zeroRel)).ht < m)
       (some (R_algebra_Width (algebra_Width_c1 r))))))))
theorem algebra_Width_in (m : Nat) (r : Rel) : algebra_Width_fn m r =
 cndO (decide (algebra_kids r.op < 0))
  (some (R_algebra_Width ((0 : Int))))
  (cndO (decide ((↑r.kids.length : Int) < algebra_kids r.op))
   (some (R_algebra_Width ((0 : Int))))
   (cndO (r.op == 1)
    (cndO (r.op == 1)
     (some (R_algebra_Width ((↑r.cols.length : Int))))
     (algebra_Width_t2 m r))
    (cndO (r.op == 2)
     (some (R_algebra_Width ((↑r.cols.length : Int))))
     (algebra_Width_t2 m r)))) := by kernel_rfl
theorem algebra_Width_spec (m : Nat) (r : Rel) (_hr : WS .rel r) (hm : r.ht < m + 1) : algebra_Width_fn m r = some (R_algebra_Width (algebra_Width r)) := by
  have k0 : 0 < r.kids.length → (r.kids.getD 0 zeroRel).ht < m := fun h => by have := Rel.ht_kid (getD_mem (d := zeroRel) (l := r.kids) h); omega
  have k1 : 1 < r.kids.length → (r.kids.getD 1 zeroRel).ht < m := fun h => by have := Rel.ht_kid (getD_mem (d := zeroRel) (l := r.kids) h); omega
  rw [algebra_Width_in]
  unfold algebra_Width_t2 algebra_Width_t1
  rw [aW_eq r, widthR_eq r]
  simp only [cndO_eq, beq_iff_eq, decide_eq_true_eq, aK_eq]
  by_cases c1 : kidsN r.op < 0
  · rw [if_pos c1, if_pos (.inl c1)]
  by_cases c2 : (r.kids.length : Int) < kidsN r.op
  · rw [if_neg c1, if_pos c2, if_pos (.inr c2)]
  rw [if_neg c1, if_neg c2, if_neg (show ¬ (kidsN r.op < 0 ∨ (r.kids.length : Int) < kidsN r.op) by omega)]
  by_cases h1 : r.op = 1
  · rw [if_pos h1, if_pos h1, if_pos (.inl h1)]
  by_cases h2 : r.op = 2
  · rw [if_neg h1, if_pos h2, if_pos (.inr h2)]
  rw [if_neg h1, if_neg h2, if_neg (show ¬ (r.op = 1 ∨ r.op = 2) by omega)]
  have hn := kidsN_one c1 (by omega)
  by_cases h4 : r.op = 4
  · rw [if_pos h4, if_pos h4]
  rw [if_neg h4, if_neg h4]
  by_cases h7 : r.op = 7
  · rw [if_pos h7, if_pos h7]
  rw [if_neg h7, if_neg h7]
  have hl0 : 0 < r.kids.length := by omega
  have kk0 := k0 hl0
  have g0 := widthsR_get r.kids 0 hl0
  by_cases h56 : r.op = 5 ∨ r.op = 6
  · have ht := kidsN_two h56
    have hl1 : 1 < r.kids.length := by omega
    have kk1 := k1 hl1
    have g1 := widthsR_get r.kids 1 hl1
    rw [if_pos h56, g0, g1]
    simp only [Rel.ids_eq, aW_eq]
    rw [obO_pos (show (0 : Int) ≤ 0 ∧ (0 : Int) < (r.kids.length : Int) by omega), obO_pos kk0, obO_pos (show (0 : Int) ≤ 1 ∧ (1 : Int) < (r.kids.length : Int) by omega), obO_pos kk1]
    rcases h56 with e | e
    · rw [if_pos e, if_pos e]
    · rw [if_neg (by omega), if_pos e]
  · rw [if_neg h56, g0, if_neg (by omega), if_neg (by omega)]
    simp only [algebra_Width_c1, rel_eta, Rel.ids_eq, aW_eq]
    rw [obO_pos (by omega), obO_pos kk0]
theorem okm_algebra_Width (m : Nat) (h_algebra_Width : FnOK 24 (Fm_algebra_Width m)) : FnOK 24 (Fm_algebra_Width (m + 1)) := by
  intro args ob rs os h hob
  unfold Fm_algebra_Width at h
  split at h
  · simp only [Option.bind_eq_some_iff, Option.some.injEq, Prod.mk.injEq] at h
    obtain ⟨r, e0, rfl, rfl, rfl⟩ := h
    obtain rfl := dS_eq e0
    exact ⟨fn_contractF (M := (M_algebra_Width m)) rfl (tbl_ok (l1 := [(23, F_algebra_kids), (24, Fm_algebra_Width m)]) (l2 := []) (l3 := []) (l4 := []) (l5 := []) ⟨ok_algebra_kids, h_algebra_Width, trivial⟩ trivial trivial trivial trivial) Tryz.func24 (by kernel_rfl) N_algebra_Width 0 [.d] (fun hwf => (algebra_Width_spec m r (wfArg hwf (a := .d (.agg (enc Ty.rel r))) (List.mem_of_getElem? (i := 0) rfl)) (hob _ (List.mem_of_getElem? (i := 0) rfl)))), hasBody_of Tryz.func24 (by kernel_rfl) (by kernel_rfl)⟩
  · simp at h
theorem okAll_widthG : ∀ m, FnOK 24 (Fm_algebra_Width m)
  | 0 => by
    skip
    intro args ob rs os h hob
    unfold Fm_algebra_Width at h
    split at h
    · simp only [Option.bind_eq_some_iff, Option.some.injEq, Prod.mk.injEq] at h
      obtain ⟨_, _, rfl, _, _⟩ := h
      exact absurd (hob _ (List.mem_of_getElem? (i := 0) rfl)) (Nat.not_lt_zero _)
    · simp at h
  | m + 1 => by
    have ih := okAll_widthG m
    exact okm_algebra_Width m ih
def F_algebra_Width : FnC Un := fun args => match args with
  | [x0] => (dS .rel x0).bind fun r => some ([], A_algebra_Width (algebra_Width r), O_algebra_Width (algebra_Width r))
  | _ => none
theorem ok_algebra_Width : FnOK 24 F_algebra_Width := by
  intro args ob rs os h hob
  unfold F_algebra_Width at h
  split at h
  · simp only [Option.bind_eq_some_iff, Option.some.injEq, Prod.mk.injEq] at h
    obtain ⟨r, e0, rfl, rfl, rfl⟩ := h
    refine ((okAll_widthG (r.ht + 1))) _ [r.ht < r.ht + 1] _ _ (?_ : Fm_algebra_Width (r.ht + 1) _ = some _) ?_
    · unfold Fm_algebra_Width
      simp only [e0, Option.bind_some]
    · intro p hp
      simp only [List.mem_cons, List.not_mem_nil, or_false] at hp
      subst hp
      exact Nat.lt_succ_self _
  · simp at h
def leavesA (r : Rel) : List Rel × List Term := leavesM (fun t a => moveA t 0 a) r
def graph_Leaves (r : Rel) : List Rel × List Term := leavesA r
theorem gL_eq (r : Rel) : graph_Leaves r = leavesA r := by unfold graph_Leaves; rfl
theorem moveA_sz (t : Term) (a : List Int) : (moveA t 0 a).sz = t.sz := mapT_sz _ _ _
theorem leavesA_sz (r : Rel) : (leavesA r).1.length ≤ r.sz ∧ szTs (leavesA r).2 ≤ r.sz := leaves_sz (fun t a => moveA_sz t a) r
theorem leavesA_eq (r : Rel) : leavesA r = if joinR r = true then (if r.op = 5 then (((leavesMs (fun t a => moveA t 0 a) r.kids).getD 0 ([], [])).1 ++ ((leavesMs (fun t a => moveA t 0 a) r.kids).getD 1 ([], [])).1, ((leavesMs (fun t a => moveA t 0 a) r.kids).getD 0 ([], [])).2 ++ (((leavesMs (fun t a => moveA t 0 a) r.kids).getD 1 ([], [])).2.map fun t => moveA t 0 (placesR r.kids)) ++ splitTs r.terms) else (((leavesMs (fun t a => moveA t 0 a) r.kids).getD 0 ([], [])).1, ((leavesMs (fun t a => moveA t 0 a) r.kids).getD 0 ([], [])).2 ++ splitTs r.terms)) else ([r], []) := by
  cases r; unfold leavesA; simp only [leavesM]; rfl
theorem szRs_memD {l : List Rel} {i : Nat} (h : i < l.length) : (l.getD i zeroRel).sz ≤ szRs l := szRs_mem (getD_mem h)
theorem csRs_memD : ∀ {l : List Rel} {i : Nat}, i < l.length → csR (l.getD i zeroRel) ≤ csRs l
  | r :: l, 0, _ => by simp only [List.getD_cons_zero, csRs]; omega
  | r :: l, i + 1, h => by have := csRs_memD (l := l) (i := i) (by simpa using h); simp only [List.getD_cons_succ, csRs]; omega
theorem lv_kid {r : Rel} {i : Nat} (h : lvOK r) (hi : i < r.kids.length) : lvOK (r.kids.getD i zeroRel) := by
  obtain ⟨h1, h2⟩ := h
  have e1 := szRs_memD hi
  have e2 := csRs_memD hi
  have e3 := r.sz_eq
  have e4 : csR r = r.cols.length + r.terms.length + r.aggs.length + csRs r.kids := by cases r; simp only [csR]; rfl
  exact ⟨by omega, by omega⟩
theorem fold_set (f : Nat → Int) (n : Nat) : ∀ k, k ≤ n → (List.range k).foldl (fun xs i => xs.set i (f i)) (List.replicate n 0) = (List.range k).map f ++ List.replicate (n - k) 0 := by
  intro k
  induction k with
  | zero => intro _; simp
  | succ k ih =>
    intro h
    rw [List.range_succ, List.foldl_append, ih (by omega), List.foldl_cons, List.foldl_nil, List.map_append, List.map_cons, List.map_nil]
    have e : n - k = (n - (k + 1)) + 1 := by omega
    rw [List.set_append_right _ _ (by simp), List.length_map, List.length_range, Nat.sub_self, e, List.replicate_succ, List.set_cons_zero]
    simp
theorem rangeN_getD {n i : Nat} (h : i < n) : (List.range n).getD i 0 = i := by
  rw [List.getD_eq_getElem?_getD, List.getElem?_range h]; rfl
theorem splits_fold : ∀ (l : List Term) (o : List Term) (a : Option Nat), (l.foldl (fun (x : List Term × Option Nat) t => (x.1 ++ splitT t, some (frz x.2 x.1.length))) (o, a)).1 = o ++ splitTs l
  | [], o, a => by simp [splitTs]
  | t :: l, o, a => by rw [List.foldl_cons, splits_fold l]; simp [splitTs]
theorem moves_fold (f : Term → Term) : ∀ (l : List Term) (o : List Term) (a b : Option Nat), (l.foldl (fun (x : List Term × Option Nat × Option Nat) t => (x.1 ++ [f t], some (frz x.2.1 x.1.length), none)) (o, a, b)).1 = o ++ l.map f
  | [], o, a, b => by simp
  | t :: l, o, a, b => by rw [List.foldl_cons, moves_fold f l]; simp
def A_graph_Leaves (r : List Rel × List Term) : List (A Un) := [.c (.ob 0 0), .c (.ob 1 0)]
def O_graph_Leaves (r : List Rel × List Term) : List (Ob Un) := [⟨0, Ty.rel, r.1, none, true⟩, ⟨0, Ty.term, r.2, none, true⟩]
def Fm_graph_Leaves (m : Nat) : FnC Un := fun args => match args with
  | [x0] => (dS .rel x0).bind fun r => some ([r.ht < m, lvOK r], A_graph_Leaves (graph_Leaves r), O_graph_Leaves (graph_Leaves r))
  | _ => none
def M_graph_Leaves (m : Nat) : Mc Un := mach (tbl [(44, F_graph_joined), (9, Fm_graph_Leaves m), (24, F_algebra_Width), (45, F_conj_Move), (46, F_conj_Split)]) (tbl []) (tbl []) (tbl []) (tbl [])
def R_graph_Leaves (r : List Rel × List Term) : RF Un := (A_graph_Leaves r, O_graph_Leaves r)
def N_graph_Leaves : Nat → NS := fun l => (look l [(9, { ts := bl 92 6755399441056754, bs := bl 92 2, nm := [(.sl 4, 368), (.sl 5, 369), (.sl 6, 370), (.sl 7, 371), (.sl 9, 372)] }), (15, { ts := bl 92 258254417031933723186, bs := bl 92 2, nm := [(.sl 4, 373), (.sl 5, 374), (.sl 9, 375), (.sl 65, 376)] }), (20, { ts := bl 92 4231240368651202111471664, bs := bl 92 0, nm := [(.sl 4, 377), (.sl 5, 378)] })]).getD ⟨[], [], [], [], []⟩
def graph_Leaves_c1 (r : Rel) := algebra_Width (Rel.mk (Rel.op (r.kids.getD 1 zeroRel)) (Rel.table (r.kids.getD 1 zeroRel)) (Rel.cols (r.kids.getD 1 zeroRel)) (Rel.kids (r.kids.getD 1 zeroRel)) (Rel.terms (r.kids.getD 1 zeroRel)) (Rel.aggs (r.kids.getD 1 zeroRel)) (Rel.keys (r.kids.getD 1 zeroRel)) (Rel.limit (r.kids.getD 1 zeroRel)) (Rel.skip (r.kids.getD 1 zeroRel)) (Rel.all (r.kids.getD 1 zeroRel)) (Rel.rows (r.kids.getD 1 zeroRel)))
def graph_Leaves_c2 (r : Rel) := algebra_Width (Rel.mk (Rel.op (r.kids.getD 0 zeroRel)) (Rel.table (r.kids.getD 0 zeroRel)) (Rel.cols (r.kids.getD 0 zeroRel)) (Rel.kids (r.kids.getD 0 zeroRel)) (Rel.terms (r.kids.getD 0 zeroRel)) (Rel.aggs (r.kids.getD 0 zeroRel)) (Rel.keys (r.kids.getD 0 zeroRel)) (Rel.limit (r.kids.getD 0 zeroRel)) (Rel.skip (r.kids.getD 0 zeroRel)) (Rel.all (r.kids.getD 0 zeroRel)) (Rel.rows (r.kids.getD 0 zeroRel)))
def graph_Leaves_c3 (r : Rel) := graph_Leaves (Rel.mk (Rel.op (r.kids.getD 0 zeroRel)) (Rel.table (r.kids.getD 0 zeroRel)) (Rel.cols (r.kids.getD 0 zeroRel)) (Rel.kids (r.kids.getD 0 zeroRel)) (Rel.terms (r.kids.getD 0 zeroRel)) (Rel.aggs (r.kids.getD 0 zeroRel)) (Rel.keys (r.kids.getD 0 zeroRel)) (Rel.limit (r.kids.getD 0 zeroRel)) (Rel.skip (r.kids.getD 0 zeroRel)) (Rel.all (r.kids.getD 0 zeroRel)) (Rel.rows (r.kids.getD 0 zeroRel)))
def graph_Leaves_c4 (r : Rel) := graph_Leaves (Rel.mk (Rel.op (r.kids.getD 1 zeroRel)) (Rel.table (r.kids.getD 1 zeroRel)) (Rel.cols (r.kids.getD 1 zeroRel)) (Rel.kids (r.kids.getD 1 zeroRel)) (Rel.terms (r.kids.getD 1 zeroRel)) (Rel.aggs (r.kids.getD 1 zeroRel)) (Rel.keys (r.kids.getD 1 zeroRel)) (Rel.limit (r.kids.getD 1 zeroRel)) (Rel.skip (r.kids.getD 1 zeroRel)) (Rel.all (r.kids.getD 1 zeroRel)) (Rel.rows (r.kids.getD 1 zeroRel)))
def graph_Leaves_c5 (r : Rel) (v1 : List Int) (v2 : Int) := conj_Move (Term.mk (Term.op ((graph_Leaves_c4 r).snd.getD v2.toNat zeroTerm)) (Term.v ((graph_Leaves_c4 r).snd.getD v2.toNat zeroTerm)) (Term.depth ((graph_Leaves_c4 r).snd.getD v2.toNat zeroTerm)) (Term.at_ ((graph_Leaves_c4 r).snd.getD v2.toNat zeroTerm)) (Term.name ((graph_Leaves_c4 r).snd.getD v2.toNat zeroTerm)) (Term.kids ((graph_Leaves_c4 r).snd.getD v2.toNat zeroTerm)) (Term.sub ((graph_Leaves_c4 r).snd.getD v2.toNat zeroTerm)) (Term.type ((graph_Leaves_c4 r).snd.getD v2.toNat zeroTerm))) (0 : Int) v1
def graph_Leaves_s9 (r : Rel) (v0 : Int) (v1 : List Int) : S Un := (st 92 92 379 0 [(1, ax 1), (4, ao 368), (5, ao 369), (6, ao 370), (7, ao 371), (8, ai (graph_Leaves_c2 r)), (9, ao 372), (51, ai (↑(List.replicate (graph_Leaves_c1 r).toNat (0 : Int)).length : Int)), (52, ai v0)] [(1, bg .rel r)] [(368, some ⟨(0 : Nat), Ty.rel, (graph_Leaves_c3 r).fst, none, true⟩), (369, some ⟨(0 : Nat), Ty.term, (graph_Leaves_c3 r).snd, none, true⟩), (370, some ⟨(0 : Nat), Ty.rel, (graph_Leaves_c4 r).fst, none, true⟩), (371, some ⟨(0 : Nat), Ty.term, (graph_Leaves_c4 r).snd, none, true⟩), (372, some ⟨(0 : Nat), Ty.int, v1, some (0 : Nat), true⟩)])
def graph_Leaves_s15 (r : Rel) (v1 : List Int) (v2 : Int) (v3 : List Term) (v4 : Option Nat) (v5 : Option Nat) : S Un := (st 92 92 379 0 [(1, ax 1), (4, ao 373), (5, ao 374), (9, ao 375), (65, ao 376), (66, ai (↑(graph_Leaves_c4 r).snd.length : Int)), (67, ai v2)] [(1, bg .rel r)] [(373, some ⟨(0 : Nat), Ty.rel, (graph_Leaves_c3 r).fst ++ (graph_Leaves_c4 r).fst, some (frz none ((graph_Leaves_c3 r).fst).length), true⟩), (374, some ⟨(0 : Nat), Ty.term, v3, v4, true⟩), (375, some ⟨(0 : Nat), Ty.int, v1, v5, true⟩), (376, some ⟨(0 : Nat), Ty.term, (graph_Leaves_c4 r).snd, none, true⟩)])
def graph_Leaves_s20 (r : Rel) (v3 : List Term) (v4 : Option Nat) (v6 : List Rel) (v7 : Option Nat) (v8 : List Term) (v9 : Option Nat) (v10 : Int) : S Un := (st 92 92 379 0 [(4, ao 377), (5, ao 378), (79, al .term r.terms), (80, ai (↑r.terms.length : Int)), (81, ai v10)] [] [(377, some ⟨(0 : Nat), Ty.rel, v6, v7, true⟩), (378, some ⟨(0 : Nat), Ty.term, v8, v9, true⟩)])
def graph_Leaves_B9 : Code := sub (bodyOf Tryz.f9) [1, 1, 1, 0, 1, 3, 1, 1, 1, 0, 1, 2, 2]
def graph_Leaves_L9 (m : Nat) : S Un → Option (EX Un) := loopF (N_graph_Leaves 9) (fun s Q => awf (M_graph_Leaves m) N_graph_Leaves graph_Leaves_B9 s Q)
def graph_Leaves_B15 : Code := sub (bodyOf Tryz.f9) [1, 1, 1, 0, 1, 3, 1, 1, 1, 1, 1, 1, 2, 2]
def graph_Leaves_L15 (m : Nat) : S Un → Option (EX Un) := loopF (N_graph_Leaves 15) (fun s Q => awf (M_graph_Leaves m) N_graph_Leaves graph_Leaves_B15 s Q)
def graph_Leaves_B20 : Code := sub (bodyOf Tryz.f9) [1, 1, 1, 1, 0, 1, 2, 2]
def graph_Leaves_L20 (m : Nat) : S Un → Option (EX Un) := loopF (N_graph_Leaves 20) (fun s Q => awf (M_graph_Leaves m) N_graph_Leaves graph_Leaves_B20 s Q)
def graph_Leaves_C9 (m : Nat) : Exit → S Un → Option (RF Un) := ctxF (M_graph_Leaves m) N_graph_Leaves (bodyOf Tryz.f9) [1, 1, 1, 0, 1, 3, 1, 1, 1, 0, 1, 2] (retF (M_graph_Leaves m) Tryz.f9.results.toList [.o, .o])
def graph_Leaves_C15 (m : Nat) : Exit → S Un → Option (RF Un) := ctxF (M_graph_Leaves m) N_graph_Leaves (bodyOf Tryz.f9) [1, 1, 1, 0, 1, 3, 1, 1, 1, 1, 1, 1, 2] (retF (M_graph_Leaves m) Tryz.f9.results.toList [.o, .o])
def graph_Leaves_C20 (m : Nat) : Exit → S Un → Option (RF Un) := ctxF (M_graph_Leaves m) N_graph_Leaves (bodyOf Tryz.f9) [1, 1, 1, 1, 0, 1, 2] (retF (M_graph_Leaves m) Tryz.f9.results.toList [.o, .o])
def graph_Leaves_fn (m : Nat) (r : Rel) : Option (RF Un) := awf (M_graph_Leaves m) N_graph_Leaves (bodyOf Tryz.f9) (entry Tryz.f9.ntmps 11 [.d (.agg (enc Ty.rel r))]) (retF (M_graph_Leaves m) Tryz.f9.results.toList [.o, .o])
theorem graph_Leaves_in (m : Nat) (r : Rel) : graph_Leaves_fn m r =
 cndO (!graph_joined (Rel.ids r))
  (some (R_graph_Leaves ([(Rel.ids r)], [])))
  (obO ((0 : Int) ≤ (0 : Int) ∧ (0 : Int) < (↑r.kids.length : Int))
   (obO ((Rel.ids (r.kids.getD 0 zeroRel)).ht < m)
    (obO (lvOK (Rel.ids (r.kids.getD 0 zeroRel)))
     (cndO (r.op == 5)
      (obO ((0 : Int) ≤ (1 : Int) ∧ (1 : Int) < (↑r.kids.length : Int))
       (obO ((Rel.ids (r.kids.getD 1 zeroRel)).ht < m)
        (obO (lvOK (Rel.ids (r.kids.getD 1 zeroRel)))
         (obO ((0 : Int) ≤ (0 : Int) ∧ (0 : Int) < (↑r.kids.length : Int))
          (obO ((0 : Int) ≤ (1 : Int) ∧ (1 : Int) < (↑r.kids.length : Int))
           (obO (0 ≤ algebra_Width (Rel.ids (r.kids.getD 1 zeroRel)) ∧ algebra_Width (Rel.ids (r.kids.getD 1 zeroRel)) ≤ algebra_Width (Rel.ids (r.kids.getD 1 zeroRel)) ∧ (graph_Leaves_c1 r).toNat * (8 : Nat) ≤ roomB)
            ((graph_Leaves_L9 m (graph_Leaves_s9 r (0 : Int) (List.replicate (graph_Leaves_c1 r).toNat (0 : Int)))).bind (thenX (graph_Leaves_C9 m)))))))))
      ((graph_Leaves_L20 m (graph_Leaves_s20 r default default ((graph_Leaves_c3 r).fst) none ((graph_Leaves_c3 r).snd) none (0 : Int))).bind (thenX (graph_Leaves_C20 m))))))) := by kernel_rfl
theorem graph_Leaves_l9 (m : Nat) (r : Rel) (v0 : Int) (v1 : List Int) : graph_Leaves_L9 m (graph_Leaves_s9 r v0 v1) =
 cndO (decide (v0 < (↑(List.replicate (graph_Leaves_c1 r).toNat (0 : Int)).length : Int)))
  (obO (0 ≤ v0 ∧ v0 < (↑v1.length : Int))
   (obO ((0 : Nat) ≤ v0.toNat)
    (graph_Leaves_L9 m (graph_Leaves_s9 r (IntKind.i64.wrap (v0 + 1)) (v1.set v0.toNat (IntKind.i64.wrap (v0 + algebra_Width (Rel.ids (r.kids.getD 0 zeroRel)))))))))
  (some (.exit 0, (graph_Leaves_s9 r v0 v1))) := (loopF_eq (N_graph_Leaves 9) graph_Leaves_B9 _).trans (by kernel_rfl)
theorem graph_Leaves_a9_x0 (m : Nat) (r : Rel) (v0 : Int) (v1 : List Int) : graph_Leaves_C9 m (.exit 0) (graph_Leaves_s9 r v0 v1) =
 obO (((graph_Leaves_c3 r).fst.length + (graph_Leaves_c4 r).fst.length) * (192 : Nat) ≤ roomB)
  ((graph_Leaves_L15 m (graph_Leaves_s15 r v1 (0 : Int) ((graph_Leaves_c3 r).snd) none (some (0 : Nat)))).bind (thenX (graph_Leaves_C15 m))) := by kernel_rfl
theorem graph_Leaves_l15 (m : Nat) (r : Rel) (v1 : List Int) (v2 : Int) (v3 : List Term) (v4 : Option Nat) (v5 : Option Nat) : graph_Leaves_L15 m (graph_Leaves_s15 r v1 v2 v3 v4 v5) =
 cndO (decide (v2 < (↑(graph_Leaves_c4 r).snd.length : Int)))
  (obO (0 ≤ v2 ∧ v2 < (↑(graph_Leaves_c4 r).snd.length : Int))
   (obO ((Term.ids ((graph_Leaves_c4 r).snd.getD v2.toNat zeroTerm)).sz ≤ (2000000 : Nat))
    (obO ((v3.length + [(Term.ids (graph_Leaves_c5 r v1 v2))].length) * (128 : Nat) ≤ roomB)
     (graph_Leaves_L15 m (graph_Leaves_s15 r v1 (IntKind.i64.wrap (v2 + 1)) (v3 ++ [(Term.ids (graph_Leaves_c5 r v1 v2))]) (some (frz v4 v3.length)) none)))))
  (some (.exit 2, (graph_Leaves_s15 r v1 v2 v3 v4 v5))) := (loopF_eq (N_graph_Leaves 15) graph_Leaves_B15 _).trans (by kernel_rfl)
theorem graph_Leaves_a15_x2 (m : Nat) (r : Rel) (v1 : List Int) (v2 : Int) (v3 : List Term) (v4 : Option Nat) (v5 : Option Nat) : graph_Leaves_C15 m (.exit 2) (graph_Leaves_s15 r v1 v2 v3 v4 v5) =
 (graph_Leaves_L20 m (graph_Leaves_s20 r default default ((graph_Leaves_c3 r).fst ++ (graph_Leaves_c4 r).fst) (some (frz none ((graph_Leaves_c3 r).fst).length)) v3 v4 (0 : Int))).bind (thenX (graph_Leaves_C20 m)) := by kernel_rfl
theorem graph_Leaves_l20 (m : Nat) (r : Rel) (v3 : List Term) (v4 : Option Nat) (v6 : List Rel) (v7 : Option Nat) (v8 : List Term) (v9 : Option Nat) (v10 : Int) : graph_Leaves_L20 m (graph_Leaves_s20 r v3 v4 v6 v7 v8 v9 v10) =
 cndO (decide (v10 < (↑r.terms.length : Int)))
  (obO (0 ≤ v10 ∧ v10 < (↑r.terms.length : Int))
   (obO ((Term.ids (r.terms.getD v10.toNat zeroTerm)).sz ≤ (2000000 : Nat))
    (obO ((v8.length + (conj_Split (Term.ids (r.terms.getD v10.toNat zeroTerm))).length) * (128 : Nat) ≤ roomB)
     (graph_Leaves_L20 m (graph_Leaves_s20 r default default v6 v7 (v8 ++ conj_Split (Term.ids (r.terms.getD v10.toNat zeroTerm))) (some (frz v9 v8.length)) (IntKind.i64.wrap (v10 + 1)))))))
  (some (.exit 4, (graph_Leaves_s20 r default default v6 v7 v8 v9 v10))) := (loopF_eq (N_graph_Leaves 20) graph_Leaves_B20 _).trans (by kernel_rfl)
theorem graph_Leaves_a20_x4 (m : Nat) (r : Rel) (v3 : List Term) (v4 : Option Nat) (v6 : List Rel) (v7 : Option Nat) (v8 : List Term) (v9 : Option Nat) (v10 : Int) : graph_Leaves_C20 m (.exit 4) (graph_Leaves_s20 r v3 v4 v6 v7 v8 v9 v10) =
 some (R_graph_Leaves (v6, v8)) := by kernel_rfl
theorem leaves_L20 (m : Nat) (r : Rel) (hr : WS .rel r) (hs : szTs r.terms ≤ 2000000) (v6 : List Rel) (v7 : Option Nat) (o : List Term) (a : Option Nat) (ho : o.length ≤ 4000000) :
    ∃ f, graph_Leaves_L20 m (graph_Leaves_s20 r default default v6 v7 o a (0 : Int)) = some (.exit 4, graph_Leaves_s20 r default default v6 v7 (o ++ splitTs r.terms) f (r.terms.length : Int)) := by
  obtain ⟨lp, _⟩ := loop_fold (e := .exit 4) (L := graph_Leaves_L20 m) (st := fun (x : List Term × Option Nat) i => graph_Leaves_s20 r default default v6 v7 x.1 x.2 i) (l := r.terms) (d := zeroTerm) (g := fun x t => (x.1 ++ splitT t, some (frz x.2 x.1.length))) (fun i x => x.1.length + szTs (r.terms.drop i) ≤ 8000000) (hr.rel_terms).len
    (fun x i t hi ht hI => by
      have hil : i < r.terms.length := by omega
      have hd := drop_getD (d := zeroTerm) hil
      have hI' : x.1.length + szTs (r.terms.drop i) ≤ 8000000 := hI
      have hmem : t ∈ r.terms := by rw [← ht]; exact getD_mem hil
      have hsz := szTs_mem hmem
      have hlen := splitT_len t
      rw [hd, ht] at hI'
      simp only [szTs] at hI'
      refine ⟨by show (x.1 ++ splitT t).length + szTs (r.terms.drop (i + 1)) ≤ 8000000; rw [List.length_append]; omega, ?_⟩
      rw [graph_Leaves_l20]
      simp only [Term.ids_eq, conj_Split_eq, cndO_eq, hi, decide_true, if_true, and_true, Int.toNat_natCast, ht]
      rw [obO_pos (by omega), obO_pos (by omega), obO_pos (by unfold roomB; omega)])
    (fun x _ => by rw [graph_Leaves_l20]; simp [cndO_eq]) (o, a) (by show o.length + szTs (r.terms.drop 0) ≤ 8000000; rw [List.drop_zero]; omega)
  rw [splits_fold] at lp
  exact ⟨_, lp⟩
theorem leaves_L15 (m : Nat) (r k1 : Rel) (h4 : graph_Leaves_c4 r = leavesA k1) (hs : k1.sz ≤ 2000000) (P : List Int) (o : List Term) (b : Option Nat) (ho : o.length ≤ 2000000) :
    ∃ f g, graph_Leaves_L15 m (graph_Leaves_s15 r P (0 : Int) o none b) = some (.exit 2, graph_Leaves_s15 r P ((leavesA k1).2.length : Int) (o ++ (leavesA k1).2.map fun t => moveA t 0 P) f g) := by
  have hz := (leavesA_sz k1).2
  have hzl := szTs_len (leavesA k1).2
  obtain ⟨lp, _⟩ := loop_fold (e := .exit 2) (L := graph_Leaves_L15 m) (st := fun (x : List Term × Option Nat × Option Nat) i => graph_Leaves_s15 r P i x.1 x.2.1 x.2.2) (l := (leavesA k1).2) (d := zeroTerm) (g := fun x t => (x.1 ++ [moveA t 0 P], some (frz x.2.1 x.1.length), none)) (fun i x => x.1.length ≤ 2000000 + i) (by omega)
    (fun x i t hi ht hI => by
      have hil : i < (leavesA k1).2.length := by omega
      have hI' : x.1.length ≤ 2000000 + i := hI
      have hmem : t ∈ (leavesA k1).2 := by rw [← ht]; exact getD_mem hil
      have hsz := szTs_mem hmem
      have h5 : graph_Leaves_c5 r P i = moveA t 0 P := by
        unfold graph_Leaves_c5
        rw [term_eta, h4, Int.toNat_natCast, ht, conj_Move_eq]
      refine ⟨by show (x.1 ++ [moveA t 0 P]).length ≤ 2000000 + (i + 1); rw [List.length_append, List.length_singleton]; omega, ?_⟩
      rw [graph_Leaves_l15]
      simp only [h5, h4, Term.ids_eq, cndO_eq, hi, decide_true, if_true, and_true, Int.toNat_natCast, ht]
      rw [obO_pos (by omega), obO_pos (by omega), obO_pos (by unfold roomB; rw [List.length_singleton]; omega)])
    (fun x _ => by rw [graph_Leaves_l15]; simp [cndO_eq, h4]) (o, none, b) (by show o.length ≤ 2000000 + 0; omega)
  rw [moves_fold (fun t => moveA t 0 P)] at lp
  exact ⟨_, _, lp⟩
theorem leaves_L9 (m : Nat) (r k0 : Rel) (hk : r.kids.getD 0 zeroRel = k0) (n : Nat) (hn : (graph_Leaves_c1 r).toNat = n) (hb : n ≤ 2000000) :
    graph_Leaves_L9 m (graph_Leaves_s9 r (0 : Int) (List.replicate (graph_Leaves_c1 r).toNat (0 : Int))) = some (.exit 0, graph_Leaves_s9 r (n : Int) ((List.range n).map fun i : Nat => IntKind.i64.wrap ((i : Int) + widthR k0))) := by
  obtain ⟨lp, _⟩ := loop_fold (e := .exit 0) (L := graph_Leaves_L9 m) (st := fun (xs : List Int) i => graph_Leaves_s9 r i xs) (l := List.range n) (d := 0) (g := fun xs i => xs.set i (IntKind.i64.wrap ((i : Int) + widthR k0))) (fun _ xs => xs.length = n) (by rw [List.length_range]; omega)
    (fun xs i x hi hx hI => by
      rw [List.length_range] at hi
      rw [rangeN_getD (by omega)] at hx
      subst hx
      have hI' : xs.length = n := hI
      refine ⟨by show (xs.set i _).length = n; rw [List.length_set]; exact hI', ?_⟩
      rw [graph_Leaves_l9]
      simp only [hn, List.length_replicate, hk, Rel.ids_eq, aW_eq, cndO_eq, decide_eq_true_eq, Int.toNat_natCast]
      rw [if_pos hi, obO_pos (by omega), obO_pos (by omega)])
    (fun xs _ => by
      rw [List.length_range, graph_Leaves_l9]
      simp only [hn, List.length_replicate, cndO_eq, decide_eq_true_eq]
      rw [if_neg (by omega)]) (List.replicate n 0) (by show (List.replicate n (0 : Int)).length = n; rw [List.length_replicate])
  rw [fold_set (fun i => IntKind.i64.wrap ((i : Int) + widthR k0)) n n (Nat.le_refl _), Nat.sub_self, List.replicate_zero, List.append_nil, List.length_range] at lp
  rw [hn]
  exact lp
theorem graph_Leaves_spec (m : Nat) (r : Rel) (hr : WS .rel r) (hm : r.ht < m + 1) (h : lvOK r) : graph_Leaves_fn m r = some (R_graph_Leaves (graph_Leaves r)) := by
  have hlv := h
  obtain ⟨h1, h2⟩ := h
  have hsz := r.sz_eq
  rw [graph_Leaves_in, gL_eq r, leavesA_eq r]
  simp only [Rel.ids_eq]
  have hj : graph_joined r = joinR r := rfl
  rw [hj, joinR_eq r]
  by_cases h5 : r.op = 5
  · by_cases hl : r.kids.length = 2
    · have e0 : (leavesMs (fun t a => moveA t 0 a) r.kids).getD 0 ([], []) = leavesA (r.kids.getD 0 zeroRel) := leavesMs_get _ _ _ (by omega)
      have e1 : (leavesMs (fun t a => moveA t 0 a) r.kids).getD 1 ([], []) = leavesA (r.kids.getD 1 zeroRel) := leavesMs_get _ _ _ (by omega)
      have w0 := widthsR_get r.kids 0 (by omega)
      have w1 := widthsR_get r.kids 1 (by omega)
      have l0 := lv_kid hlv (i := 0) (by omega)
      have l1 := lv_kid hlv (i := 1) (by omega)
      have t0 := Rel.ht_kid (getD_mem (d := zeroRel) (l := r.kids) (i := 0) (by omega))
      have t1 := Rel.ht_kid (getD_mem (d := zeroRel) (l := r.kids) (i := 1) (by omega))
      have b0 := leavesA_sz (r.kids.getD 0 zeroRel)
      have b1 := leavesA_sz (r.kids.getD 1 zeroRel)
      have c0 := szTs_len (leavesA (r.kids.getD 0 zeroRel)).2
      have d1 := width_cs (r.kids.getD 1 zeroRel) l1.2
      have hl1 := l1.2
      have hl0s := l0.1
      have hl1s := l1.1
      have c1 : graph_Leaves_c1 r = widthR (r.kids.getD 1 zeroRel) := by unfold graph_Leaves_c1; rw [rel_eta, aW_eq]
      have c3 : graph_Leaves_c3 r = leavesA (r.kids.getD 0 zeroRel) := by unfold graph_Leaves_c3; rw [rel_eta, gL_eq]
      have c4 : graph_Leaves_c4 r = leavesA (r.kids.getD 1 zeroRel) := by unfold graph_Leaves_c4; rw [rel_eta, gL_eq]
      have hP : placesR r.kids = (List.range (widthR (r.kids.getD 1 zeroRel)).toNat).map fun i : Nat => IntKind.i64.wrap ((i : Int) + widthR (r.kids.getD 0 zeroRel)) := by unfold placesR; rw [w0, w1]
      have hL9 := leaves_L9 m r (r.kids.getD 0 zeroRel) rfl (widthR (r.kids.getD 1 zeroRel)).toNat (by rw [c1]) (by omega)
      have hc : (if r.op = 5 then decide (r.kids.length = 2) else decide (r.op = 3 ∧ r.kids.length = 1) && joinH r.kids) = true := by rw [if_pos h5, decide_eq_true hl]
      rw [hc, if_pos rfl, if_pos h5, e0, e1]
      simp only [cndO_eq, beq_iff_eq, Bool.not_true, aW_eq]
      rw [if_neg (by decide), obO_pos (by omega), obO_pos (by omega), obO_pos l0, if_pos h5, obO_pos (by omega), obO_pos (by omega), obO_pos l1, obO_pos (by omega), obO_pos (by omega), obO_pos (by rw [c1]; unfold roomB; omega)]
      refine (loop_end hL9).trans ?_
      rw [graph_Leaves_a9_x0, obO_pos (by rw [c3, c4]; unfold roomB; omega), c3, ← hP]
      obtain ⟨f, g, hL15⟩ := leaves_L15 m r (r.kids.getD 1 zeroRel) c4 l1.1 (placesR r.kids) (leavesA (r.kids.getD 0 zeroRel)).2 (some 0) (by omega)
      refine (loop_end hL15).trans ?_
      rw [graph_Leaves_a15_x2, c3, c4]
      obtain ⟨f2, hL20⟩ := leaves_L20 m r hr (by omega) ((leavesA (r.kids.getD 0 zeroRel)).1 ++ (leavesA (r.kids.getD 1 zeroRel)).1) (some (frz none (leavesA (r.kids.getD 0 zeroRel)).1.length)) ((leavesA (r.kids.getD 0 zeroRel)).2 ++ (leavesA (r.kids.getD 1 zeroRel)).2.map fun t => moveA t 0 (placesR r.kids)) f (by
        have := szTs_len (leavesA (r.kids.getD 1 zeroRel)).2
        rw [List.length_append, List.length_map]; omega)
      refine (loop_end hL20).trans ?_
      rw [graph_Leaves_a20_x4]
    · have hc : (if r.op = 5 then decide (r.kids.length = 2) else decide (r.op = 3 ∧ r.kids.length = 1) && joinH r.kids) = false := by rw [if_pos h5, decide_eq_false hl]
      rw [hc, if_neg (by decide)]
      rfl
  · by_cases h3 : (r.op = 3 ∧ r.kids.length = 1) ∧ joinH r.kids = true
    · obtain ⟨⟨h3, hl⟩, hj2⟩ := h3
      have e0 : (leavesMs (fun t a => moveA t 0 a) r.kids).getD 0 ([], []) = leavesA (r.kids.getD 0 zeroRel) := leavesMs_get _ _ _ (by omega)
      have l0 := lv_kid hlv (i := 0) (by omega)
      have t0 := Rel.ht_kid (getD_mem (d := zeroRel) (l := r.kids) (i := 0) (by omega))
      have b0 := leavesA_sz (r.kids.getD 0 zeroRel)
      have c0 := szTs_len (leavesA (r.kids.getD 0 zeroRel)).2
      have hl0s := l0.1
      have c3 : graph_Leaves_c3 r = leavesA (r.kids.getD 0 zeroRel) := by unfold graph_Leaves_c3; rw [rel_eta, gL_eq]
      have hc : (if r.op = 5 then decide (r.kids.length = 2) else decide (r.op = 3 ∧ r.kids.length = 1) && joinH r.kids) = true := by rw [if_neg h5, decide_eq_true ⟨h3, hl⟩, hj2]; rfl
      rw [hc, if_pos rfl, if_neg h5, e0]
      simp only [cndO_eq, beq_iff_eq, Bool.not_true]
      rw [if_neg (by decide), obO_pos (by omega), obO_pos (by omega), obO_pos l0, if_neg h5, c3]
      obtain ⟨f2, hL20⟩ := leaves_L20 m r hr (by omega) (leavesA (r.kids.getD 0 zeroRel)).1 none (leavesA (r.kids.getD 0 zeroRel)).2 none (by omega)
      refine (loop_end hL20).trans ?_
      rw [graph_Leaves_a20_x4]
    · have hc : (if r.op = 5 then decide (r.kids.length = 2) else decide (r.op = 3 ∧ r.kids.length = 1) && joinH r.kids) = false := by
        rw [if_neg h5]
        cases hq : decide (r.op = 3 ∧ r.kids.length = 1) && joinH r.kids with
        | false => rfl
        | true =>
          rw [Bool.and_eq_true, decide_eq_true_eq] at hq
          exact absurd hq h3
      rw [hc, if_neg (by decide)]
      rfl
theorem okm_graph_Leaves (m : Nat) (h_graph_Leaves : FnOK 9 (Fm_graph_Leaves m)) : FnOK 9 (Fm_graph_Leaves (m + 1)) := by
  intro args ob rs os h hob
  unfold Fm_graph_Leaves at h
  split at h
  · simp only [Option.bind_eq_some_iff, Option.some.injEq, Prod.mk.injEq] at h
    obtain ⟨r, e0, rfl, rfl, rfl⟩ := h
    obtain rfl := dS_eq e0
    exact ⟨fn_contractF (M := (M_graph_Leaves m)) rfl (tbl_ok (l1 := [(44, F_graph_joined), (9, Fm_graph_Leaves m), (24, F_algebra_Width), (45, F_conj_Move), (46, F_conj_Split)]) (l2 := []) (l3 := []) (l4 := []) (l5 := []) ⟨ok_graph_joined, h_graph_Leaves, ok_algebra_Width, ok_conj_Move, ok_conj_Split, trivial⟩ trivial trivial trivial trivial) Tryz.func9 (by kernel_rfl) N_graph_Leaves 11 [.o, .o] (fun hwf => (graph_Leaves_spec m r (wfArg hwf (a := .d (.agg (enc Ty.rel r))) (List.mem_of_getElem? (i := 0) rfl)) (hob _ (List.mem_of_getElem? (i := 0) rfl)) (hob _ (List.mem_of_getElem? (i := 1) rfl)))), hasBody_of Tryz.func9 (by kernel_rfl) (by kernel_rfl)⟩
  · simp at h
theorem okAll_leavesG : ∀ m, FnOK 9 (Fm_graph_Leaves m)
  | 0 => by
    skip
    intro args ob rs os h hob
    unfold Fm_graph_Leaves at h
    split at h
    · simp only [Option.bind_eq_some_iff, Option.some.injEq, Prod.mk.injEq] at h
      obtain ⟨_, _, rfl, _, _⟩ := h
      exact absurd (hob _ (List.mem_of_getElem? (i := 0) rfl)) (Nat.not_lt_zero _)
    · simp at h
  | m + 1 => by
    have ih := okAll_leavesG m
    exact okm_graph_Leaves m ih
def F_graph_Leaves : FnC Un := fun args => match args with
  | [x0] => (dS .rel x0).bind fun r => some ([lvOK r], A_graph_Leaves (graph_Leaves r), O_graph_Leaves (graph_Leaves r))
  | _ => none
theorem ok_graph_Leaves : FnOK 9 F_graph_Leaves := by
  intro args ob rs os h hob
  unfold F_graph_Leaves at h
  split at h
  · simp only [Option.bind_eq_some_iff, Option.some.injEq, Prod.mk.injEq] at h
    obtain ⟨r, e0, rfl, rfl, rfl⟩ := h
    refine ((okAll_leavesG (r.ht + 1))) _ [r.ht < r.ht + 1, lvOK r] _ _ (?_ : Fm_graph_Leaves (r.ht + 1) _ = some _) ?_
    · unfold Fm_graph_Leaves
      simp only [e0, Option.bind_some]
    · intro p hp
      simp only [List.mem_cons, List.not_mem_nil, or_false] at hp
      rcases hp with rfl | rfl
      · exact Nat.lt_succ_self _
      · exact hob _ (List.mem_of_getElem? (i := 0) rfl)
  · simp at h
end
end Go.Proofs.YtmpnompddfhkeaaGreat.B
namespace Go.Proofs.YtmpnompddfhkeaaGreat.B
open Go Go.RowKit
set_option maxRecDepth 100000
noncomputable section
attribute [local irreducible] awp ctxK itersK iterK retQ retGQ awf ctxF loopF
def eqfA {α : Type} (q : α → α → Bool) : List α → List α → Bool
  | [], [] => true
  | x :: a, y :: b => q x y && eqfA q a b
  | _, _ => false
theorem eqfA_len {α : Type} {q : α → α → Bool} : ∀ {a b : List α}, a.length ≠ b.length → eqfA q a b = false
  | [], [], h => absurd rfl h
  | x :: a, y :: b, h => by simp only [eqfA]; rw [eqfA_len (a := a) (b := b) (by simpa using h), Bool.and_false]
  | [], _ :: _, _ => rfl
  | _ :: _, [], _ => rfl
theorem eqfA_iff {α : Type} {q : α → α → Bool} (hq : ∀ x y, q x y = true ↔ x = y) : ∀ {a b : List α}, eqfA q a b = true ↔ a = b
  | [], [] => by simp [eqfA]
  | x :: a, y :: b => by simp only [eqfA, Bool.and_eq_true, hq, eqfA_iff hq, List.cons.injEq]
  | [], _ :: _ => by simp [eqfA]
  | _ :: _, [] => by simp [eqfA]
theorem loop_all2 {α β : Type} {L : S Un → Option (EX Un)} {st : Int → S Un} {C : Exit → S Un → Option β} (R : Bool → Option β) {a b : List α} {d : α} {e : Exit} (q : α → α → Bool) (hab : a.length = b.length) (hl : a.length ≤ 9223372036854775807)
    (step : ∀ i : Nat, i < a.length → L (st i) = if q (a.getD i d) (b.getD i d) = true then L (st (IntKind.i64.wrap ((i : Int) + 1))) else some (.ret, st i))
    (stop : L (st (a.length : Int)) = some (e, st (a.length : Int))) (cr : ∀ i : Nat, C .ret (st i) = R false) (ce : C e (st (a.length : Int)) = R true) : (L (st (0 : Int))).bind (thenX C) = R (eqfA q a b) := by
  have key : ∀ (k i : Nat), i + k = a.length → (L (st i)).bind (thenX C) = R (eqfA q (a.drop i) (b.drop i)) := by
    intro k
    induction k with
    | zero =>
      intro i hi
      obtain rfl : i = a.length := by omega
      rw [loop_end stop, ce, List.drop_length, hab, List.drop_length]; rfl
    | succ k ih =>
      intro i hi
      have h1 : i < a.length := by omega
      have h2 : i < b.length := by omega
      have ga : a.getD i d = a[i] := by rw [List.getD_eq_getElem?_getD, List.getElem?_eq_getElem h1]; rfl
      have gb : b.getD i d = b[i] := by rw [List.getD_eq_getElem?_getD, List.getElem?_eq_getElem h2]; rfl
      rw [List.drop_eq_getElem_cons h1, List.drop_eq_getElem_cons h2]
      simp only [eqfA]
      have hs := step i h1
      rw [ga, gb] at hs
      by_cases hq : q a[i] b[i] = true
      · rw [if_pos hq, wrap_next h1 hl] at hs
        rw [hs, ih (i + 1) (by omega), hq, Bool.true_and]
      · rw [if_neg hq] at hs
        have hq' : q a[i] b[i] = false := by simpa using hq
        rw [loop_end hs, cr, hq', Bool.false_and]
  exact key a.length 0 (by omega)
def eqfO {α : Type} (d : α) (o : α → α → Prop) (a b : List α) : Prop := a.length = b.length → ∀ i, i < a.length → o (a.getD i d) (b.getD i d)
def M_eqf_term : Mc Un := mach (tbl []) (tbl []) (tbl []) (tbl []) (tbl [])
def A_eqf_term (r : Bool) : List (A Un) := [.c (.s (.bool r))]
def O_eqf_term (_r : Bool) : List (Ob Un) := []
def R_eqf_term (r : Bool) : RF Un := (A_eqf_term r, O_eqf_term r)
def N_eqf_term : Nat → NS := fun l => (look l [(4, { ts := bl 32 229446, bs := bl 32 0, nm := [] })]).getD ⟨[], [], [], [], []⟩
def eqf_term_s4 (a : List Term) (b : List Term) (eq_o : Term → Term → Prop) (eq : Term → Term → Bool) (v0 : Int) : S Un := (st 32 32 128 0 [(1, al .term b), (2, AV.one (A.c (C.fv (fvo_S_term_S_term_to_b eq_o eq)))), (6, ab false), (15, al .term a), (16, ai (↑a.length : Int)), (17, ai v0)] [] [])
def eqf_term_B4 : Code := sub (bodyOf Tryz.f89) [1, 1, 0, 1, 2, 2]
def eqf_term_L4 : S Un → Option (EX Un) := loopF (N_eqf_term 4) (fun s Q => awf M_eqf_term N_eqf_term eqf_term_B4 s Q)
def eqf_term_C4 : Exit → S Un → Option (RF Un) := ctxF M_eqf_term N_eqf_term (bodyOf Tryz.f89) [1, 1, 0, 1, 2] (retF M_eqf_term Tryz.f89.results.toList [.d])
def eqf_term_fn (a : List Term) (b : List Term) (eq_o : Term → Term → Prop) (eq : Term → Term → Bool) : Option (RF Un) := awf M_eqf_term N_eqf_term (bodyOf Tryz.f89) (entry Tryz.f89.ntmps 0 [.d (.v (.dat (U := Un) Ty.term a)), .d (.v (.dat (U := Un) Ty.term b)), .fn (fvo_S_term_S_term_to_b eq_o eq)]) (retF M_eqf_term Tryz.f89.results.toList [.d])
theorem eqf_term_in (a : List Term) (b : List Term) (eq_o : Term → Term → Prop) (eq : Term → Term → Bool) : eqf_term_fn a b eq_o eq =
 cndO ((↑a.length : Int) != (↑b.length : Int))
  (some (R_eqf_term (false)))
  ((eqf_term_L4 (eqf_term_s4 a b eq_o eq (0 : Int))).bind (thenX eqf_term_C4)) := by kernel_rfl
theorem eqf_term_l4 (a : List Term) (b : List Term) (eq_o : Term → Term → Prop) (eq : Term → Term → Bool) (v0 : Int) : eqf_term_L4 (eqf_term_s4 a b eq_o eq v0) =
 cndO (decide (v0 < (↑a.length : Int)))
  (obO (0 ≤ v0 ∧ v0 < (↑a.length : Int))
   (obO (0 ≤ v0 ∧ v0 < (↑b.length : Int))
    (obO (eq_o (Term.ids (a.getD v0.toNat zeroTerm)) (Term.ids (b.getD v0.toNat zeroTerm)))
     (cndO (!eq (Term.ids (a.getD v0.toNat zeroTerm)) (Term.ids (b.getD v0.toNat zeroTerm)))
      (some (.ret, (eqf_term_s4 a b eq_o eq v0)))
      (eqf_term_L4 (eqf_term_s4 a b eq_o eq (IntKind.i64.wrap (v0 + 1))))))))
  (some (.exit 0, (eqf_term_s4 a b eq_o eq v0))) := (loopF_eq (N_eqf_term 4) eqf_term_B4 _).trans (by kernel_rfl)
theorem eqf_term_a4_ret (a : List Term) (b : List Term) (eq_o : Term → Term → Prop) (eq : Term → Term → Bool) (v0 : Int) : eqf_term_C4 .ret (eqf_term_s4 a b eq_o eq v0) =
 some (R_eqf_term (false)) := by kernel_rfl
theorem eqf_term_a4_x0 (a : List Term) (b : List Term) (eq_o : Term → Term → Prop) (eq : Term → Term → Bool) (v0 : Int) : eqf_term_C4 (.exit 0) (eqf_term_s4 a b eq_o eq v0) =
 some (R_eqf_term (true)) := by kernel_rfl
def eqfO_term (o : Term → Term → Prop) (a b : List Term) : Prop := eqfO zeroTerm o a b
def eqf_term (a b : List Term) (_o : Term → Term → Prop) (q : Term → Term → Bool) : Bool := eqfA q a b
theorem eqf_term_spec (a b : List Term) (o : Term → Term → Prop) (q : Term → Term → Bool) (ha : WL .term a) (_hb : WL .term b) (h : eqfO_term o a b) : eqf_term_fn a b o q = some (R_eqf_term (eqf_term a b o q)) := by
  rw [eqf_term_in, cndO_eq]
  unfold eqf_term
  by_cases hl : a.length = b.length
  · rw [if_neg (by simp [hl])]
    exact loop_all2 (L := eqf_term_L4) (st := fun i => eqf_term_s4 a b o q i) (fun r => some (R_eqf_term r)) (d := zeroTerm) q hl ha.len
      (fun i hi => by
        rw [eqf_term_l4]
        simp only [cndO_eq, Term.ids_eq, Int.toNat_natCast]
        rw [if_pos (by simp; omega), obO_pos (by omega), obO_pos (by omega), obO_pos (h hl i hi)]
        cases q (a.getD i zeroTerm) (b.getD i zeroTerm) <;> simp)
      (by rw [eqf_term_l4]; simp [cndO_eq]) (fun i => eqf_term_a4_ret _ _ _ _ _) (eqf_term_a4_x0 _ _ _ _ _)
  · rw [if_pos (by simp; omega), eqfA_len hl]
def F_eqf_term : FnC Un := fun args => match args with
  | [x0, x1, x2] => (dL .term x0).bind fun a => (dL .term x1).bind fun b => (dF x2).bind fun eq => some ([eq = (fvo_S_term_S_term_to_b (po_S_term_S_term_to_b eq) (pf_S_term_S_term_to_b eq)), eqfO_term (po_S_term_S_term_to_b eq) a b], A_eqf_term (eqf_term a b (po_S_term_S_term_to_b eq) (pf_S_term_S_term_to_b eq)), O_eqf_term (eqf_term a b (po_S_term_S_term_to_b eq) (pf_S_term_S_term_to_b eq)))
  | _ => none
theorem ok_eqf_term : FnOK 89 F_eqf_term := by
  intro args ob rs os h hob
  unfold F_eqf_term at h
  split at h
  · simp only [Option.bind_eq_some_iff, Option.some.injEq, Prod.mk.injEq] at h
    obtain ⟨a, e0, b, e1, eq, e2, rfl, rfl, rfl⟩ := h
    obtain rfl := dL_eq e0
    obtain rfl := dL_eq e1
    obtain rfl := dF_eq e2
    have hfv0 := hob _ (List.mem_of_getElem? (i := 0) rfl)
    generalize pf_S_term_S_term_to_b eq = pp0 at *
    generalize po_S_term_S_term_to_b eq = qq0 at *
    subst hfv0
    exact ⟨fn_contractF (M := M_eqf_term) rfl (tbl_ok (l1 := []) (l2 := []) (l3 := []) (l4 := []) (l5 := []) trivial trivial trivial trivial trivial) Tryz.func89 (by kernel_rfl) N_eqf_term 0 [.d] (fun hwf => (eqf_term_spec a b qq0 pp0 (wfArg hwf (a := .d (.v (.dat (U := Un) Ty.term a))) (List.mem_of_getElem? (i := 0) rfl)) (wfArg hwf (a := .d (.v (.dat (U := Un) Ty.term b))) (List.mem_of_getElem? (i := 1) rfl)) (hob _ (List.mem_of_getElem? (i := 1) rfl)))), hasBody_of Tryz.func89 (by kernel_rfl) (by kernel_rfl)⟩
  · simp at h
end
end Go.Proofs.YtmpnompddfhkeaaGreat.B
namespace Go.Proofs.YtmpnompddfhkeaaGreat.B
open Go Go.RowKit
set_option maxRecDepth 100000
noncomputable section
attribute [local irreducible] awp ctxK itersK iterK retQ retGQ awf ctxF loopF
def M_eqf_rel : Mc Un := mach (tbl []) (tbl []) (tbl []) (tbl []) (tbl [])
def A_eqf_rel (r : Bool) : List (A Un) := [.c (.s (.bool r))]
def O_eqf_rel (_r : Bool) : List (Ob Un) := []
def R_eqf_rel (r : Bool) : RF Un := (A_eqf_rel r, O_eqf_rel r)
def N_eqf_rel : Nat → NS := fun l => (look l [(4, { ts := bl 32 229446, bs := bl 32 0, nm := [] })]).getD ⟨[], [], [], [], []⟩
def eqf_rel_s4 (a : List Rel) (b : List Rel) (eq_o : Rel → Rel → Prop) (eq : Rel → Rel → Bool) (v0 : Int) : S Un := (st 32 32 128 0 [(1, al .rel b), (2, AV.one (A.c (C.fv (fvo_S_rel_S_rel_to_b eq_o eq)))), (6, ab false), (15, al .rel a), (16, ai (↑a.length : Int)), (17, ai v0)] [] [])
def eqf_rel_B4 : Code := sub (bodyOf Tryz.f93) [1, 1, 0, 1, 2, 2]
def eqf_rel_L4 : S Un → Option (EX Un) := loopF (N_eqf_rel 4) (fun s Q => awf M_eqf_rel N_eqf_rel eqf_rel_B4 s Q)
def eqf_rel_C4 : Exit → S Un → Option (RF Un) := ctxF M_eqf_rel N_eqf_rel (bodyOf Tryz.f93) [1, 1, 0, 1, 2] (retF M_eqf_rel Tryz.f93.results.toList [.d])
def eqf_rel_fn (a : List Rel) (b : List Rel) (eq_o : Rel → Rel → Prop) (eq : Rel → Rel → Bool) : Option (RF Un) := awf M_eqf_rel N_eqf_rel (bodyOf Tryz.f93) (entry Tryz.f93.ntmps 0 [.d (.v (.dat (U := Un) Ty.rel a)), .d (.v (.dat (U := Un) Ty.rel b)), .fn (fvo_S_rel_S_rel_to_b eq_o eq)]) (retF M_eqf_rel Tryz.f93.results.toList [.d])
theorem eqf_rel_in (a : List Rel) (b : List Rel) (eq_o : Rel → Rel → Prop) (eq : Rel → Rel → Bool) : eqf_rel_fn a b eq_o eq =
 cndO ((↑a.length : Int) != (↑b.length : Int))
  (some (R_eqf_rel (false)))
  ((eqf_rel_L4 (eqf_rel_s4 a b eq_o eq (0 : Int))).bind (thenX eqf_rel_C4)) := by kernel_rfl
theorem eqf_rel_l4 (a : List Rel) (b : List Rel) (eq_o : Rel → Rel → Prop) (eq : Rel → Rel → Bool) (v0 : Int) : eqf_rel_L4 (eqf_rel_s4 a b eq_o eq v0) =
 cndO (decide (v0 < (↑a.length : Int)))
  (obO (0 ≤ v0 ∧ v0 < (↑a.length : Int))
   (obO (0 ≤ v0 ∧ v0 < (↑b.length : Int))
    (obO (eq_o (Rel.ids (a.getD v0.toNat zeroRel)) (Rel.ids (b.getD v0.toNat zeroRel)))
     (cndO (!eq (Rel.ids (a.getD v0.toNat zeroRel)) (Rel.ids (b.getD v0.toNat zeroRel)))
      (some (.ret, (eqf_rel_s4 a b eq_o eq v0)))
      (eqf_rel_L4 (eqf_rel_s4 a b eq_o eq (IntKind.i64.wrap (v0 + 1))))))))
  (some (.exit 0, (eqf_rel_s4 a b eq_o eq v0))) := (loopF_eq (N_eqf_rel 4) eqf_rel_B4 _).trans (by kernel_rfl)
theorem eqf_rel_a4_ret (a : List Rel) (b : List Rel) (eq_o : Rel → Rel → Prop) (eq : Rel → Rel → Bool) (v0 : Int) : eqf_rel_C4 .ret (eqf_rel_s4 a b eq_o eq v0) =
 some (R_eqf_rel (false)) := by kernel_rfl
theorem eqf_rel_a4_x0 (a : List Rel) (b : List Rel) (eq_o : Rel → Rel → Prop) (eq : Rel → Rel → Bool) (v0 : Int) : eqf_rel_C4 (.exit 0) (eqf_rel_s4 a b eq_o eq v0) =
 some (R_eqf_rel (true)) := by kernel_rfl
def eqfO_rel (o : Rel → Rel → Prop) (a b : List Rel) : Prop := eqfO zeroRel o a b
def eqf_rel (a b : List Rel) (_o : Rel → Rel → Prop) (q : Rel → Rel → Bool) : Bool := eqfA q a b
theorem eqf_rel_spec (a b : List Rel) (o : Rel → Rel → Prop) (q : Rel → Rel → Bool) (ha : WL .rel a) (_hb : WL .rel b) (h : eqfO_rel o a b) : eqf_rel_fn a b o q = some (R_eqf_rel (eqf_rel a b o q)) := by
  rw [eqf_rel_in, cndO_eq]
  unfold eqf_rel
  by_cases hl : a.length = b.length
  · rw [if_neg (by simp [hl])]
    exact loop_all2 (L := eqf_rel_L4) (st := fun i => eqf_rel_s4 a b o q i) (fun r => some (R_eqf_rel r)) (d := zeroRel) q hl ha.len
      (fun i hi => by
        rw [eqf_rel_l4]
        simp only [cndO_eq, Rel.ids_eq, Int.toNat_natCast]
        rw [if_pos (by simp; omega), obO_pos (by omega), obO_pos (by omega), obO_pos (h hl i hi)]
        cases q (a.getD i zeroRel) (b.getD i zeroRel) <;> simp)
      (by rw [eqf_rel_l4]; simp [cndO_eq]) (fun i => eqf_rel_a4_ret _ _ _ _ _) (eqf_rel_a4_x0 _ _ _ _ _)
  · rw [if_pos (by simp; omega), eqfA_len hl]
def F_eqf_rel : FnC Un := fun args => match args with
  | [x0, x1, x2] => (dL .rel x0).bind fun a => (dL .rel x1).bind fun b => (dF x2).bind fun eq => some ([eq = (fvo_S_rel_S_rel_to_b (po_S_rel_S_rel_to_b eq) (pf_S_rel_S_rel_to_b eq)), eqfO_rel (po_S_rel_S_rel_to_b eq) a b], A_eqf_rel (eqf_rel a b (po_S_rel_S_rel_to_b eq) (pf_S_rel_S_rel_to_b eq)), O_eqf_rel (eqf_rel a b (po_S_rel_S_rel_to_b eq) (pf_S_rel_S_rel_to_b eq)))
  | _ => none
theorem ok_eqf_rel : FnOK 93 F_eqf_rel := by
  intro args ob rs os h hob
  unfold F_eqf_rel at h
  split at h
  · simp only [Option.bind_eq_some_iff, Option.some.injEq, Prod.mk.injEq] at h
    obtain ⟨a, e0, b, e1, eq, e2, rfl, rfl, rfl⟩ := h
    obtain rfl := dL_eq e0
    obtain rfl := dL_eq e1
    obtain rfl := dF_eq e2
    have hfv0 := hob _ (List.mem_of_getElem? (i := 0) rfl)
    generalize pf_S_rel_S_rel_to_b eq = pp0 at *
    generalize po_S_rel_S_rel_to_b eq = qq0 at *
    subst hfv0
    exact ⟨fn_contractF (M := M_eqf_rel) rfl (tbl_ok (l1 := []) (l2 := []) (l3 := []) (l4 := []) (l5 := []) trivial trivial trivial trivial trivial) Tryz.func93 (by kernel_rfl) N_eqf_rel 0 [.d] (fun hwf => (eqf_rel_spec a b qq0 pp0 (wfArg hwf (a := .d (.v (.dat (U := Un) Ty.rel a))) (List.mem_of_getElem? (i := 0) rfl)) (wfArg hwf (a := .d (.v (.dat (U := Un) Ty.rel b))) (List.mem_of_getElem? (i := 1) rfl)) (hob _ (List.mem_of_getElem? (i := 1) rfl)))), hasBody_of Tryz.func93 (by kernel_rfl) (by kernel_rfl)⟩
  · simp at h
def M_eqf_agg : Mc Un := mach (tbl []) (tbl []) (tbl []) (tbl []) (tbl [])
def A_eqf_agg (r : Bool) : List (A Un) := [.c (.s (.bool r))]
def O_eqf_agg (_r : Bool) : List (Ob Un) := []
def R_eqf_agg (r : Bool) : RF Un := (A_eqf_agg r, O_eqf_agg r)
def N_eqf_agg : Nat → NS := fun l => (look l [(4, { ts := bl 32 229446, bs := bl 32 0, nm := [] })]).getD ⟨[], [], [], [], []⟩
def eqf_agg_s4 (a : List Agg) (b : List Agg) (eq_o : Agg → Agg → Prop) (eq : Agg → Agg → Bool) (v0 : Int) : S Un := (st 32 32 128 0 [(1, al .agg b), (2, AV.one (A.c (C.fv (fvo_S_agg_S_agg_to_b eq_o eq)))), (6, ab false), (15, al .agg a), (16, ai (↑a.length : Int)), (17, ai v0)] [] [])
def eqf_agg_B4 : Code := sub (bodyOf Tryz.f91) [1, 1, 0, 1, 2, 2]
def eqf_agg_L4 : S Un → Option (EX Un) := loopF (N_eqf_agg 4) (fun s Q => awf M_eqf_agg N_eqf_agg eqf_agg_B4 s Q)
def eqf_agg_C4 : Exit → S Un → Option (RF Un) := ctxF M_eqf_agg N_eqf_agg (bodyOf Tryz.f91) [1, 1, 0, 1, 2] (retF M_eqf_agg Tryz.f91.results.toList [.d])
def eqf_agg_fn (a : List Agg) (b : List Agg) (eq_o : Agg → Agg → Prop) (eq : Agg → Agg → Bool) : Option (RF Un) := awf M_eqf_agg N_eqf_agg (bodyOf Tryz.f91) (entry Tryz.f91.ntmps 0 [.d (.v (.dat (U := Un) Ty.agg a)), .d (.v (.dat (U := Un) Ty.agg b)), .fn (fvo_S_agg_S_agg_to_b eq_o eq)]) (retF M_eqf_agg Tryz.f91.results.toList [.d])
theorem eqf_agg_in (a : List Agg) (b : List Agg) (eq_o : Agg → Agg → Prop) (eq : Agg → Agg → Bool) : eqf_agg_fn a b eq_o eq =
 cndO ((↑a.length : Int) != (↑b.length : Int))
  (some (R_eqf_agg (false)))
  ((eqf_agg_L4 (eqf_agg_s4 a b eq_o eq (0 : Int))).bind (thenX eqf_agg_C4)) := by kernel_rfl
theorem eqf_agg_l4 (a : List Agg) (b : List Agg) (eq_o : Agg → Agg → Prop) (eq : Agg → Agg → Bool) (v0 : Int) : eqf_agg_L4 (eqf_agg_s4 a b eq_o eq v0) =
 cndO (decide (v0 < (↑a.length : Int)))
  (obO (0 ≤ v0 ∧ v0 < (↑a.length : Int))
   (obO (0 ≤ v0 ∧ v0 < (↑b.length : Int))
    (obO (eq_o (Agg.ids (a.getD v0.toNat zeroAgg)) (Agg.ids (b.getD v0.toNat zeroAgg)))
     (cndO (!eq (Agg.ids (a.getD v0.toNat zeroAgg)) (Agg.ids (b.getD v0.toNat zeroAgg)))
      (some (.ret, (eqf_agg_s4 a b eq_o eq v0)))
      (eqf_agg_L4 (eqf_agg_s4 a b eq_o eq (IntKind.i64.wrap (v0 + 1))))))))
  (some (.exit 0, (eqf_agg_s4 a b eq_o eq v0))) := (loopF_eq (N_eqf_agg 4) eqf_agg_B4 _).trans (by kernel_rfl)
theorem eqf_agg_a4_ret (a : List Agg) (b : List Agg) (eq_o : Agg → Agg → Prop) (eq : Agg → Agg → Bool) (v0 : Int) : eqf_agg_C4 .ret (eqf_agg_s4 a b eq_o eq v0) =
 some (R_eqf_agg (false)) := by kernel_rfl
theorem eqf_agg_a4_x0 (a : List Agg) (b : List Agg) (eq_o : Agg → Agg → Prop) (eq : Agg → Agg → Bool) (v0 : Int) : eqf_agg_C4 (.exit 0) (eqf_agg_s4 a b eq_o eq v0) =
 some (R_eqf_agg (true)) := by kernel_rfl
def eqfO_agg (o : Agg → Agg → Prop) (a b : List Agg) : Prop := eqfO zeroAgg o a b
def eqf_agg (a b : List Agg) (_o : Agg → Agg → Prop) (q : Agg → Agg → Bool) : Bool := eqfA q a b
theorem eqf_agg_spec (a b : List Agg) (o : Agg → Agg → Prop) (q : Agg → Agg → Bool) (ha : WL .agg a) (_hb : WL .agg b) (h : eqfO_agg o a b) : eqf_agg_fn a b o q = some (R_eqf_agg (eqf_agg a b o q)) := by
  rw [eqf_agg_in, cndO_eq]
  unfold eqf_agg
  by_cases hl : a.length = b.length
  · rw [if_neg (by simp [hl])]
    exact loop_all2 (L := eqf_agg_L4) (st := fun i => eqf_agg_s4 a b o q i) (fun r => some (R_eqf_agg r)) (d := zeroAgg) q hl ha.len
      (fun i hi => by
        rw [eqf_agg_l4]
        simp only [cndO_eq, Agg.ids_eq, Int.toNat_natCast]
        rw [if_pos (by simp; omega), obO_pos (by omega), obO_pos (by omega), obO_pos (h hl i hi)]
        cases q (a.getD i zeroAgg) (b.getD i zeroAgg) <;> simp)
      (by rw [eqf_agg_l4]; simp [cndO_eq]) (fun i => eqf_agg_a4_ret _ _ _ _ _) (eqf_agg_a4_x0 _ _ _ _ _)
  · rw [if_pos (by simp; omega), eqfA_len hl]
def F_eqf_agg : FnC Un := fun args => match args with
  | [x0, x1, x2] => (dL .agg x0).bind fun a => (dL .agg x1).bind fun b => (dF x2).bind fun eq => some ([eq = (fvo_S_agg_S_agg_to_b (po_S_agg_S_agg_to_b eq) (pf_S_agg_S_agg_to_b eq)), eqfO_agg (po_S_agg_S_agg_to_b eq) a b], A_eqf_agg (eqf_agg a b (po_S_agg_S_agg_to_b eq) (pf_S_agg_S_agg_to_b eq)), O_eqf_agg (eqf_agg a b (po_S_agg_S_agg_to_b eq) (pf_S_agg_S_agg_to_b eq)))
  | _ => none
theorem ok_eqf_agg : FnOK 91 F_eqf_agg := by
  intro args ob rs os h hob
  unfold F_eqf_agg at h
  split at h
  · simp only [Option.bind_eq_some_iff, Option.some.injEq, Prod.mk.injEq] at h
    obtain ⟨a, e0, b, e1, eq, e2, rfl, rfl, rfl⟩ := h
    obtain rfl := dL_eq e0
    obtain rfl := dL_eq e1
    obtain rfl := dF_eq e2
    have hfv0 := hob _ (List.mem_of_getElem? (i := 0) rfl)
    generalize pf_S_agg_S_agg_to_b eq = pp0 at *
    generalize po_S_agg_S_agg_to_b eq = qq0 at *
    subst hfv0
    exact ⟨fn_contractF (M := M_eqf_agg) rfl (tbl_ok (l1 := []) (l2 := []) (l3 := []) (l4 := []) (l5 := []) trivial trivial trivial trivial trivial) Tryz.func91 (by kernel_rfl) N_eqf_agg 0 [.d] (fun hwf => (eqf_agg_spec a b qq0 pp0 (wfArg hwf (a := .d (.v (.dat (U := Un) Ty.agg a))) (List.mem_of_getElem? (i := 0) rfl)) (wfArg hwf (a := .d (.v (.dat (U := Un) Ty.agg b))) (List.mem_of_getElem? (i := 1) rfl)) (hob _ (List.mem_of_getElem? (i := 1) rfl)))), hasBody_of Tryz.func91 (by kernel_rfl) (by kernel_rfl)⟩
  · simp at h
end
end Go.Proofs.YtmpnompddfhkeaaGreat.B
namespace Go.Proofs.YtmpnompddfhkeaaGreat.B
open Go Go.RowKit
set_option maxRecDepth 100000
noncomputable section
attribute [local irreducible] awp ctxK itersK iterK retQ retGQ awf ctxF loopF
noncomputable def deq {α : Type} (a b : α) : Bool := @decide (a = b) (Classical.propDecidable _)
theorem deq_iff {α : Type} {a b : α} : deq a b = true ↔ a = b := by unfold deq; exact @decide_eq_true_iff _ (Classical.propDecidable _)
theorem deq_of {α : Type} {a b : α} {x : Bool} (h : x = true ↔ a = b) : x = deq a b := by
  rw [Bool.eq_iff_iff, h, deq_iff]
theorem name_deq (a b : ByteArray) : (a.toList == b.toList) = true ↔ a = b := by
  rw [beq_iff_eq]
  exact ⟨fun h => by
    have e : ∀ x : ByteArray, x.toList = x.data.toList := fun x => ByteArray.toList_eq x
    rw [e, e] at h
    obtain ⟨⟨a⟩⟩ := a
    obtain ⟨⟨b⟩⟩ := b
    simp at h
    subst h; rfl, fun h => by rw [h]⟩
theorem eqBy (x y : By) : andB [EK.bool] (x.at_ == y.at_) (andB [] (x.down == y.down) true) = deq x y := by
  refine deq_of ?_
  obtain ⟨a, b⟩ := x
  obtain ⟨a', b'⟩ := y
  show ((a == a') && (b == b')) = true ↔ _
  rw [Bool.and_eq_true, beq_iff_eq, beq_iff_eq]
  exact ⟨fun h => by rw [h.1, h.2], fun h => by cases h; exact ⟨rfl, rfl⟩⟩
theorem eqCol (x y : Col) : andB [EK.str, EK.int IntKind.i64] (x.table.toList == y.table.toList) (andB [EK.int IntKind.i64] (x.name.toList == y.name.toList) (andB [] (x.type == y.type) true)) = deq x y := by
  refine deq_of ?_
  obtain ⟨a, b, c⟩ := x
  obtain ⟨a', b', c'⟩ := y
  show ((a.toList == a'.toList) && ((b.toList == b'.toList) && (c == c'))) = true ↔ _
  rw [Bool.and_eq_true, Bool.and_eq_true, name_deq, name_deq, beq_iff_eq]
  exact ⟨fun h => by rw [h.1, h.2.1, h.2.2], fun h => by cases h; exact ⟨rfl, rfl, rfl⟩⟩
theorem eqVal (x y : Val) : andB [EK.int IntKind.i64, EK.str] (x.kind == y.kind) (andB [EK.str] (x.n == y.n) (andB [] (x.s.toList == y.s.toList) true)) = deq x y := by
  refine deq_of ?_
  obtain ⟨a, b, c⟩ := x
  obtain ⟨a', b', c'⟩ := y
  show ((a == a') && ((b == b') && (c.toList == c'.toList))) = true ↔ _
  rw [Bool.and_eq_true, Bool.and_eq_true, name_deq, beq_iff_eq, beq_iff_eq]
  exact ⟨fun h => by rw [h.1, h.2.1, h.2.2], fun h => by cases h; exact ⟨rfl, rfl, rfl⟩⟩
theorem eqfA_deq {α : Type} {a b : List α} : eqfA deq a b = deq a b := deq_of (eqfA_iff fun _ _ => deq_iff)
def M_eql_by : Mc Un := mach (tbl []) (tbl []) (tbl []) (tbl []) (tbl [])
def A_eql_by (r : Bool) : List (A Un) := [.c (.s (.bool r))]
def O_eql_by (_r : Bool) : List (Ob Un) := []
def R_eql_by (r : Bool) : RF Un := (A_eql_by r, O_eql_by r)
def N_eql_by : Nat → NS := fun l => (look l [(4, { ts := bl 26 12307, bs := bl 26 0, nm := [] })]).getD ⟨[], [], [], [], []⟩
def eql_by_s4 (a : List By) (b : List By) (v0 : Int) : S Un := (st 26 26 104 0 [(0, al .by_ a), (1, al .by_ b), (4, ab false), (12, ai (↑a.length : Int)), (13, ai v0)] [] [])
def eql_by_B4 : Code := sub (bodyOf Tryz.f86) [1, 1, 0, 1, 2, 2]
def eql_by_L4 : S Un → Option (EX Un) := loopF (N_eql_by 4) (fun s Q => awf M_eql_by N_eql_by eql_by_B4 s Q)
def eql_by_C4 : Exit → S Un → Option (RF Un) := ctxF M_eql_by N_eql_by (bodyOf Tryz.f86) [1, 1, 0, 1, 2] (retF M_eql_by Tryz.f86.results.toList [.d])
def eql_by_fn (a : List By) (b : List By) : Option (RF Un) := awf M_eql_by N_eql_by (bodyOf Tryz.f86) (entry Tryz.f86.ntmps 0 [.d (.v (.dat (U := Un) Ty.by_ a)), .d (.v (.dat (U := Un) Ty.by_ b))]) (retF M_eql_by Tryz.f86.results.toList [.d])
theorem eql_by_in (a : List By) (b : List By) : eql_by_fn a b =
 cndO ((↑a.length : Int) != (↑b.length : Int))
  (some (R_eql_by (false)))
  ((eql_by_L4 (eql_by_s4 a b (0 : Int))).bind (thenX eql_by_C4)) := by kernel_rfl
theorem eql_by_l4 (a : List By) (b : List By) (v0 : Int) : eql_by_L4 (eql_by_s4 a b v0) =
 cndO (decide (v0 < (↑a.length : Int)))
  (obO (0 ≤ v0 ∧ v0 < (↑a.length : Int))
   (obO (0 ≤ v0 ∧ v0 < (↑b.length : Int))
    (cndO (!andB [EK.bool] ((a.getD v0.toNat zeroBy).at_ == (b.getD v0.toNat zeroBy).at_) (andB [] ((a.getD v0.toNat zeroBy).down == (b.getD v0.toNat zeroBy).down) true))
     (some (.ret, (eql_by_s4 a b v0)))
     (eql_by_L4 (eql_by_s4 a b (IntKind.i64.wrap (v0 + 1)))))))
  (some (.exit 0, (eql_by_s4 a b v0))) := (loopF_eq (N_eql_by 4) eql_by_B4 _).trans (by kernel_rfl)
theorem eql_by_a4_ret (a : List By) (b : List By) (v0 : Int) : eql_by_C4 .ret (eql_by_s4 a b v0) =
 some (R_eql_by (false)) := by kernel_rfl
theorem eql_by_a4_x0 (a : List By) (b : List By) (v0 : Int) : eql_by_C4 (.exit 0) (eql_by_s4 a b v0) =
 some (R_eql_by (true)) := by kernel_rfl
noncomputable def eql_by (a b : List By) : Bool := deq a b
theorem eql_by_spec (a b : List By) (ha : WL .by_ a) (_hb : WL .by_ b) : eql_by_fn a b = some (R_eql_by (eql_by a b)) := by
  rw [eql_by_in, cndO_eq]
  unfold eql_by
  rw [← eqfA_deq]
  by_cases hl : a.length = b.length
  · rw [if_neg (by simp [hl])]
    exact loop_all2 (L := eql_by_L4) (st := fun i => eql_by_s4 a b i) (fun r => some (R_eql_by r)) (d := zeroBy) deq hl ha.len
      (fun i hi => by
        rw [eql_by_l4, eqBy]
        simp only [cndO_eq, Int.toNat_natCast]
        rw [if_pos (by simp; omega), obO_pos (by omega), obO_pos (by omega)]
        cases deq (a.getD i zeroBy) (b.getD i zeroBy) <;> simp)
      (by rw [eql_by_l4]; simp [cndO_eq]) (fun i => eql_by_a4_ret _ _ _) (eql_by_a4_x0 _ _ _)
  · rw [if_pos (by simp; omega), eqfA_len hl]
def F_eql_by : FnC Un := fun args => match args with
  | [x0, x1] => (dL .by_ x0).bind fun a => (dL .by_ x1).bind fun b => some ([], A_eql_by (eql_by a b), O_eql_by (eql_by a b))
  | _ => none
theorem ok_eql_by : FnOK 86 F_eql_by := by
  intro args ob rs os h hob
  unfold F_eql_by at h
  split at h
  · simp only [Option.bind_eq_some_iff, Option.some.injEq, Prod.mk.injEq] at h
    obtain ⟨a, e0, b, e1, rfl, rfl, rfl⟩ := h
    obtain rfl := dL_eq e0
    obtain rfl := dL_eq e1
    exact ⟨fn_contractF (M := M_eql_by) rfl (tbl_ok (l1 := []) (l2 := []) (l3 := []) (l4 := []) (l5 := []) trivial trivial trivial trivial trivial) Tryz.func86 (by kernel_rfl) N_eql_by 0 [.d] (fun hwf => (eql_by_spec a b (wfArg hwf (a := .d (.v (.dat (U := Un) Ty.by_ a))) (List.mem_of_getElem? (i := 0) rfl)) (wfArg hwf (a := .d (.v (.dat (U := Un) Ty.by_ b))) (List.mem_of_getElem? (i := 1) rfl)))), hasBody_of Tryz.func86 (by kernel_rfl) (by kernel_rfl)⟩
  · simp at h
def M_eql_col : Mc Un := mach (tbl []) (tbl []) (tbl []) (tbl []) (tbl [])
def A_eql_col (r : Bool) : List (A Un) := [.c (.s (.bool r))]
def O_eql_col (_r : Bool) : List (Ob Un) := []
def R_eql_col (r : Bool) : RF Un := (A_eql_col r, O_eql_col r)
def N_eql_col : Nat → NS := fun l => (look l [(4, { ts := bl 26 12307, bs := bl 26 0, nm := [] })]).getD ⟨[], [], [], [], []⟩
def eql_col_s4 (a : List Col) (b : List Col) (v0 : Int) : S Un := (st 26 26 104 0 [(0, al .col a), (1, al .col b), (4, ab false), (12, ai (↑a.length : Int)), (13, ai v0)] [] [])
def eql_col_B4 : Code := sub (bodyOf Tryz.f85) [1, 1, 0, 1, 2, 2]
def eql_col_L4 : S Un → Option (EX Un) := loopF (N_eql_col 4) (fun s Q => awf M_eql_col N_eql_col eql_col_B4 s Q)
def eql_col_C4 : Exit → S Un → Option (RF Un) := ctxF M_eql_col N_eql_col (bodyOf Tryz.f85) [1, 1, 0, 1, 2] (retF M_eql_col Tryz.f85.results.toList [.d])
def eql_col_fn (a : List Col) (b : List Col) : Option (RF Un) := awf M_eql_col N_eql_col (bodyOf Tryz.f85) (entry Tryz.f85.ntmps 0 [.d (.v (.dat (U := Un) Ty.col a)), .d (.v (.dat (U := Un) Ty.col b))]) (retF M_eql_col Tryz.f85.results.toList [.d])
theorem eql_col_in (a : List Col) (b : List Col) : eql_col_fn a b =
 cndO ((↑a.length : Int) != (↑b.length : Int))
  (some (R_eql_col (false)))
  ((eql_col_L4 (eql_col_s4 a b (0 : Int))).bind (thenX eql_col_C4)) := by kernel_rfl
theorem eql_col_l4 (a : List Col) (b : List Col) (v0 : Int) : eql_col_L4 (eql_col_s4 a b v0) =
 cndO (decide (v0 < (↑a.length : Int)))
  (obO (0 ≤ v0 ∧ v0 < (↑a.length : Int))
   (obO (0 ≤ v0 ∧ v0 < (↑b.length : Int))
    (cndO (!andB [EK.str, EK.int IntKind.i64] ((a.getD v0.toNat zeroCol).table.toList == (b.getD v0.toNat zeroCol).table.toList) (andB [EK.int IntKind.i64] ((a.getD v0.toNat zeroCol).name.toList == (b.getD v0.toNat zeroCol).name.toList) (andB [] ((a.getD v0.toNat zeroCol).type == (b.getD v0.toNat zeroCol).type) true)))
     (some (.ret, (eql_col_s4 a b v0)))
     (eql_col_L4 (eql_col_s4 a b (IntKind.i64.wrap (v0 + 1)))))))
  (some (.exit 0, (eql_col_s4 a b v0))) := (loopF_eq (N_eql_col 4) eql_col_B4 _).trans (by kernel_rfl)
theorem eql_col_a4_ret (a : List Col) (b : List Col) (v0 : Int) : eql_col_C4 .ret (eql_col_s4 a b v0) =
 some (R_eql_col (false)) := by kernel_rfl
theorem eql_col_a4_x0 (a : List Col) (b : List Col) (v0 : Int) : eql_col_C4 (.exit 0) (eql_col_s4 a b v0) =
 some (R_eql_col (true)) := by kernel_rfl
noncomputable def eql_col (a b : List Col) : Bool := deq a b
theorem eql_col_spec (a b : List Col) (ha : WL .col a) (_hb : WL .col b) : eql_col_fn a b = some (R_eql_col (eql_col a b)) := by
  rw [eql_col_in, cndO_eq]
  unfold eql_col
  rw [← eqfA_deq]
  by_cases hl : a.length = b.length
  · rw [if_neg (by simp [hl])]
    exact loop_all2 (L := eql_col_L4) (st := fun i => eql_col_s4 a b i) (fun r => some (R_eql_col r)) (d := zeroCol) deq hl ha.len
      (fun i hi => by
        rw [eql_col_l4, eqCol]
        simp only [cndO_eq, Int.toNat_natCast]
        rw [if_pos (by simp; omega), obO_pos (by omega), obO_pos (by omega)]
        cases deq (a.getD i zeroCol) (b.getD i zeroCol) <;> simp)
      (by rw [eql_col_l4]; simp [cndO_eq]) (fun i => eql_col_a4_ret _ _ _) (eql_col_a4_x0 _ _ _)
  · rw [if_pos (by simp; omega), eqfA_len hl]
def F_eql_col : FnC Un := fun args => match args with
  | [x0, x1] => (dL .col x0).bind fun a => (dL .col x1).bind fun b => some ([], A_eql_col (eql_col a b), O_eql_col (eql_col a b))
  | _ => none
theorem ok_eql_col : FnOK 85 F_eql_col := by
  intro args ob rs os h hob
  unfold F_eql_col at h
  split at h
  · simp only [Option.bind_eq_some_iff, Option.some.injEq, Prod.mk.injEq] at h
    obtain ⟨a, e0, b, e1, rfl, rfl, rfl⟩ := h
    obtain rfl := dL_eq e0
    obtain rfl := dL_eq e1
    exact ⟨fn_contractF (M := M_eql_col) rfl (tbl_ok (l1 := []) (l2 := []) (l3 := []) (l4 := []) (l5 := []) trivial trivial trivial trivial trivial) Tryz.func85 (by kernel_rfl) N_eql_col 0 [.d] (fun hwf => (eql_col_spec a b (wfArg hwf (a := .d (.v (.dat (U := Un) Ty.col a))) (List.mem_of_getElem? (i := 0) rfl)) (wfArg hwf (a := .d (.v (.dat (U := Un) Ty.col b))) (List.mem_of_getElem? (i := 1) rfl)))), hasBody_of Tryz.func85 (by kernel_rfl) (by kernel_rfl)⟩
  · simp at h
def M_eql_val : Mc Un := mach (tbl []) (tbl []) (tbl []) (tbl []) (tbl [])
def A_eql_val (r : Bool) : List (A Un) := [.c (.s (.bool r))]
def O_eql_val (_r : Bool) : List (Ob Un) := []
def R_eql_val (r : Bool) : RF Un := (A_eql_val r, O_eql_val r)
def N_eql_val : Nat → NS := fun l => (look l [(4, { ts := bl 26 12307, bs := bl 26 0, nm := [] })]).getD ⟨[], [], [], [], []⟩
def eql_val_s4 (a : List Val) (b : List Val) (v0 : Int) : S Un := (st 26 26 104 0 [(0, al .val a), (1, al .val b), (4, ab false), (12, ai (↑a.length : Int)), (13, ai v0)] [] [])
def eql_val_B4 : Code := sub (bodyOf Tryz.f143) [1, 1, 0, 1, 2, 2]
def eql_val_L4 : S Un → Option (EX Un) := loopF (N_eql_val 4) (fun s Q => awf M_eql_val N_eql_val eql_val_B4 s Q)
def eql_val_C4 : Exit → S Un → Option (RF Un) := ctxF M_eql_val N_eql_val (bodyOf Tryz.f143) [1, 1, 0, 1, 2] (retF M_eql_val Tryz.f143.results.toList [.d])
def eql_val_fn (a : List Val) (b : List Val) : Option (RF Un) := awf M_eql_val N_eql_val (bodyOf Tryz.f143) (entry Tryz.f143.ntmps 0 [.d (.v (.dat (U := Un) Ty.val a)), .d (.v (.dat (U := Un) Ty.val b))]) (retF M_eql_val Tryz.f143.results.toList [.d])
theorem eql_val_in (a : List Val) (b : List Val) : eql_val_fn a b =
 cndO ((↑a.length : Int) != (↑b.length : Int))
  (some (R_eql_val (false)))
  ((eql_val_L4 (eql_val_s4 a b (0 : Int))).bind (thenX eql_val_C4)) := by kernel_rfl
theorem eql_val_l4 (a : List Val) (b : List Val) (v0 : Int) : eql_val_L4 (eql_val_s4 a b v0) =
 cndO (decide (v0 < (↑a.length : Int)))
  (obO (0 ≤ v0 ∧ v0 < (↑a.length : Int))
   (obO (0 ≤ v0 ∧ v0 < (↑b.length : Int))
    (cndO (!andB [EK.int IntKind.i64, EK.str] ((a.getD v0.toNat zeroVal).kind == (b.getD v0.toNat zeroVal).kind) (andB [EK.str] ((a.getD v0.toNat zeroVal).n == (b.getD v0.toNat zeroVal).n) (andB [] ((a.getD v0.toNat zeroVal).s.toList == (b.getD v0.toNat zeroVal).s.toList) true)))
     (some (.ret, (eql_val_s4 a b v0)))
     (eql_val_L4 (eql_val_s4 a b (IntKind.i64.wrap (v0 + 1)))))))
  (some (.exit 0, (eql_val_s4 a b v0))) := (loopF_eq (N_eql_val 4) eql_val_B4 _).trans (by kernel_rfl)
theorem eql_val_a4_ret (a : List Val) (b : List Val) (v0 : Int) : eql_val_C4 .ret (eql_val_s4 a b v0) =
 some (R_eql_val (false)) := by kernel_rfl
theorem eql_val_a4_x0 (a : List Val) (b : List Val) (v0 : Int) : eql_val_C4 (.exit 0) (eql_val_s4 a b v0) =
 some (R_eql_val (true)) := by kernel_rfl
noncomputable def eql_val (a b : List Val) : Bool := deq a b
theorem eql_val_spec (a b : List Val) (ha : WL .val a) (_hb : WL .val b) : eql_val_fn a b = some (R_eql_val (eql_val a b)) := by
  rw [eql_val_in, cndO_eq]
  unfold eql_val
  rw [← eqfA_deq]
  by_cases hl : a.length = b.length
  · rw [if_neg (by simp [hl])]
    exact loop_all2 (L := eql_val_L4) (st := fun i => eql_val_s4 a b i) (fun r => some (R_eql_val r)) (d := zeroVal) deq hl ha.len
      (fun i hi => by
        rw [eql_val_l4, eqVal]
        simp only [cndO_eq, Int.toNat_natCast]
        rw [if_pos (by simp; omega), obO_pos (by omega), obO_pos (by omega)]
        cases deq (a.getD i zeroVal) (b.getD i zeroVal) <;> simp)
      (by rw [eql_val_l4]; simp [cndO_eq]) (fun i => eql_val_a4_ret _ _ _) (eql_val_a4_x0 _ _ _)
  · rw [if_pos (by simp; omega), eqfA_len hl]
def F_eql_val : FnC Un := fun args => match args with
  | [x0, x1] => (dL .val x0).bind fun a => (dL .val x1).bind fun b => some ([], A_eql_val (eql_val a b), O_eql_val (eql_val a b))
  | _ => none
theorem ok_eql_val : FnOK 143 F_eql_val := by
  intro args ob rs os h hob
  unfold F_eql_val at h
  split at h
  · simp only [Option.bind_eq_some_iff, Option.some.injEq, Prod.mk.injEq] at h
    obtain ⟨a, e0, b, e1, rfl, rfl, rfl⟩ := h
    obtain rfl := dL_eq e0
    obtain rfl := dL_eq e1
    exact ⟨fn_contractF (M := M_eql_val) rfl (tbl_ok (l1 := []) (l2 := []) (l3 := []) (l4 := []) (l5 := []) trivial trivial trivial trivial trivial) Tryz.func143 (by kernel_rfl) N_eql_val 0 [.d] (fun hwf => (eql_val_spec a b (wfArg hwf (a := .d (.v (.dat (U := Un) Ty.val a))) (List.mem_of_getElem? (i := 0) rfl)) (wfArg hwf (a := .d (.v (.dat (U := Un) Ty.val b))) (List.mem_of_getElem? (i := 1) rfl)))), hasBody_of Tryz.func143 (by kernel_rfl) (by kernel_rfl)⟩
  · simp at h
end
end Go.Proofs.YtmpnompddfhkeaaGreat.B
namespace Go.Proofs.YtmpnompddfhkeaaGreat.B
open Go Go.RowKit
set_option maxRecDepth 100000
noncomputable section
attribute [local irreducible] awp ctxK itersK iterK retQ retGQ awf ctxF loopF
def M_algebra_sameRow : Mc Un := mach (tbl [(143, F_eql_val)]) (tbl []) (tbl []) (tbl []) (tbl [])
def A_algebra_sameRow (r : Bool) : List (A Un) := [.c (.s (.bool r))]
def O_algebra_sameRow (_r : Bool) : List (Ob Un) := []
def R_algebra_sameRow (r : Bool) : RF Un := (A_algebra_sameRow r, O_algebra_sameRow r)
def N_algebra_sameRow : Nat → NS := fun l => (look l []).getD ⟨[], [], [], [], []⟩
def algebra_sameRow_fn (a : List Val) (b : List Val) : Option (RF Un) := awf M_algebra_sameRow N_algebra_sameRow (bodyOf Tryz.f88) (entry Tryz.f88.ntmps 0 [.d (.v (.dat (U := Un) Ty.val a)), .d (.v (.dat (U := Un) Ty.val b))]) (retF M_algebra_sameRow Tryz.f88.results.toList [.d])
theorem algebra_sameRow_in (a : List Val) (b : List Val) : algebra_sameRow_fn a b =
 some (R_algebra_sameRow (eql_val a b)) := by kernel_rfl
def algebra_sameRow (a : List Val) (b : List Val) : Bool :=
  (eql_val a b)
theorem algebra_sameRow_eq (a : List Val) (b : List Val) : algebra_sameRow_fn a b = some (R_algebra_sameRow (algebra_sameRow a b)) := by rw [algebra_sameRow_in]; unfold algebra_sameRow; simp only [cndO_eq]; repeat (first | rfl | split)
def F_algebra_sameRow : FnC Un := fun args => match args with
  | [x0, x1] => (dL .val x0).bind fun a => (dL .val x1).bind fun b => some ([], A_algebra_sameRow (algebra_sameRow a b), O_algebra_sameRow (algebra_sameRow a b))
  | _ => none
theorem ok_algebra_sameRow : FnOK 88 F_algebra_sameRow := by
  intro args ob rs os h hob
  unfold F_algebra_sameRow at h
  split at h
  · simp only [Option.bind_eq_some_iff, Option.some.injEq, Prod.mk.injEq] at h
    obtain ⟨a, e0, b, e1, rfl, rfl, rfl⟩ := h
    obtain rfl := dL_eq e0
    obtain rfl := dL_eq e1
    exact ⟨fn_contractF (M := M_algebra_sameRow) rfl (tbl_ok (l1 := [(143, F_eql_val)]) (l2 := []) (l3 := []) (l4 := []) (l5 := []) ⟨ok_eql_val, trivial⟩ trivial trivial trivial trivial) Tryz.func88 (by kernel_rfl) N_algebra_sameRow 0 [.d] (fun hwf => (algebra_sameRow_eq a b)), hasBody_of Tryz.func88 (by kernel_rfl) (by kernel_rfl)⟩
  · simp at h
def V_algebra_sameRow : FV Un := fvo_L_val_L_val_to_b (fun a b => True) (fun a b => algebra_sameRow a b)
theorem okV_algebra_sameRow : FvOK 88 V_algebra_sameRow := by
  refine ⟨hasBody_of Tryz.func88 (by kernel_rfl) (by kernel_rfl), fun args ob rs h hob => ?_⟩
  unfold V_algebra_sameRow fvo_L_val_L_val_to_b at h
  split at h
  · simp only [Option.bind_eq_some_iff, Option.some.injEq, Prod.mk.injEq] at h
    obtain ⟨a, e0, b, e1, rfl, rfl⟩ := h
    simp only [List.map_cons, List.map_nil]
    rw [dL_eq e0]
    rw [dL_eq e1]
    refine Contract.data (ok_algebra_sameRow _ ([]) _ _ (?_ : F_algebra_sameRow _ = some _) (by simp)).1
    unfold F_algebra_sameRow
    simp only [dL_mk]
    rfl
  · simp at h
def M_eqf_row : Mc Un := mach (tbl []) (tbl []) (tbl []) (tbl []) (tbl [])
def A_eqf_row (r : Bool) : List (A Un) := [.c (.s (.bool r))]
def O_eqf_row (_r : Bool) : List (Ob Un) := []
def R_eqf_row (r : Bool) : RF Un := (A_eqf_row r, O_eqf_row r)
def N_eqf_row : Nat → NS := fun l => (look l [(4, { ts := bl 32 229446, bs := bl 32 0, nm := [] })]).getD ⟨[], [], [], [], []⟩
def eqf_row_s4 (a : List (List Val)) (b : List (List Val)) (eq_o : (List Val) → (List Val) → Prop) (eq : (List Val) → (List Val) → Bool) (v0 : Int) : S Un := (st 32 32 128 0 [(1, al .row b), (2, AV.one (A.c (C.fv (fvo_L_val_L_val_to_b eq_o eq)))), (6, ab false), (15, al .row a), (16, ai (↑a.length : Int)), (17, ai v0)] [] [])
def eqf_row_B4 : Code := sub (bodyOf Tryz.f87) [1, 1, 0, 1, 2, 2]
def eqf_row_L4 : S Un → Option (EX Un) := loopF (N_eqf_row 4) (fun s Q => awf M_eqf_row N_eqf_row eqf_row_B4 s Q)
def eqf_row_C4 : Exit → S Un → Option (RF Un) := ctxF M_eqf_row N_eqf_row (bodyOf Tryz.f87) [1, 1, 0, 1, 2] (retF M_eqf_row Tryz.f87.results.toList [.d])
def eqf_row_fn (a : List (List Val)) (b : List (List Val)) (eq_o : (List Val) → (List Val) → Prop) (eq : (List Val) → (List Val) → Bool) : Option (RF Un) := awf M_eqf_row N_eqf_row (bodyOf Tryz.f87) (entry Tryz.f87.ntmps 0 [.d (.v (.dat (U := Un) Ty.row a)), .d (.v (.dat (U := Un) Ty.row b)), .fn (fvo_L_val_L_val_to_b eq_o eq)]) (retF M_eqf_row Tryz.f87.results.toList [.d])
theorem eqf_row_in (a : List (List Val)) (b : List (List Val)) (eq_o : (List Val) → (List Val) → Prop) (eq : (List Val) → (List Val) → Bool) : eqf_row_fn a b eq_o eq =
 cndO ((↑a.length : Int) != (↑b.length : Int))
  (some (R_eqf_row (false)))
  ((eqf_row_L4 (eqf_row_s4 a b eq_o eq (0 : Int))).bind (thenX eqf_row_C4)) := by kernel_rfl
theorem eqf_row_l4 (a : List (List Val)) (b : List (List Val)) (eq_o : (List Val) → (List Val) → Prop) (eq : (List Val) → (List Val) → Bool) (v0 : Int) : eqf_row_L4 (eqf_row_s4 a b eq_o eq v0) =
 cndO (decide (v0 < (↑a.length : Int)))
  (obO (0 ≤ v0 ∧ v0 < (↑a.length : Int))
   (obO (0 ≤ v0 ∧ v0 < (↑b.length : Int))
    (obO (eq_o (a.getD v0.toNat []) (b.getD v0.toNat []))
     (cndO (!eq (a.getD v0.toNat []) (b.getD v0.toNat []))
      (some (.ret, (eqf_row_s4 a b eq_o eq v0)))
      (eqf_row_L4 (eqf_row_s4 a b eq_o eq (IntKind.i64.wrap (v0 + 1))))))))
  (some (.exit 0, (eqf_row_s4 a b eq_o eq v0))) := (loopF_eq (N_eqf_row 4) eqf_row_B4 _).trans (by kernel_rfl)
theorem eqf_row_a4_ret (a : List (List Val)) (b : List (List Val)) (eq_o : (List Val) → (List Val) → Prop) (eq : (List Val) → (List Val) → Bool) (v0 : Int) : eqf_row_C4 .ret (eqf_row_s4 a b eq_o eq v0) =
 some (R_eqf_row (false)) := by kernel_rfl
theorem eqf_row_a4_x0 (a : List (List Val)) (b : List (List Val)) (eq_o : (List Val) → (List Val) → Prop) (eq : (List Val) → (List Val) → Bool) (v0 : Int) : eqf_row_C4 (.exit 0) (eqf_row_s4 a b eq_o eq v0) =
 some (R_eqf_row (true)) := by kernel_rfl
def eqfO_row (o : List Val → List Val → Prop) (a b : List (List Val)) : Prop := eqfO [] o a b
def eqf_row (a b : List (List Val)) (_o : List Val → List Val → Prop) (q : List Val → List Val → Bool) : Bool := eqfA q a b
theorem eqf_row_spec (a b : List (List Val)) (o : List Val → List Val → Prop) (q : List Val → List Val → Bool) (ha : WL .row a) (_hb : WL .row b) (h : eqfO_row o a b) : eqf_row_fn a b o q = some (R_eqf_row (eqf_row a b o q)) := by
  rw [eqf_row_in, cndO_eq]
  unfold eqf_row
  by_cases hl : a.length = b.length
  · rw [if_neg (by simp [hl])]
    exact loop_all2 (L := eqf_row_L4) (st := fun i => eqf_row_s4 a b o q i) (fun r => some (R_eqf_row r)) (d := []) q hl ha.len
      (fun i hi => by
        rw [eqf_row_l4]
        simp only [cndO_eq, Int.toNat_natCast]
        rw [if_pos (by simp; omega), obO_pos (by omega), obO_pos (by omega), obO_pos (h hl i hi)]
        cases q (a.getD i []) (b.getD i []) <;> simp)
      (by rw [eqf_row_l4]; simp [cndO_eq]) (fun i => eqf_row_a4_ret _ _ _ _ _) (eqf_row_a4_x0 _ _ _ _ _)
  · rw [if_pos (by simp; omega), eqfA_len hl]
def F_eqf_row : FnC Un := fun args => match args with
  | [x0, x1, x2] => (dL .row x0).bind fun a => (dL .row x1).bind fun b => (dF x2).bind fun eq => some ([eq = (fvo_L_val_L_val_to_b (po_L_val_L_val_to_b eq) (pf_L_val_L_val_to_b eq)), eqfO_row (po_L_val_L_val_to_b eq) a b], A_eqf_row (eqf_row a b (po_L_val_L_val_to_b eq) (pf_L_val_L_val_to_b eq)), O_eqf_row (eqf_row a b (po_L_val_L_val_to_b eq) (pf_L_val_L_val_to_b eq)))
  | _ => none
theorem ok_eqf_row : FnOK 87 F_eqf_row := by
  intro args ob rs os h hob
  unfold F_eqf_row at h
  split at h
  · simp only [Option.bind_eq_some_iff, Option.some.injEq, Prod.mk.injEq] at h
    obtain ⟨a, e0, b, e1, eq, e2, rfl, rfl, rfl⟩ := h
    obtain rfl := dL_eq e0
    obtain rfl := dL_eq e1
    obtain rfl := dF_eq e2
    have hfv0 := hob _ (List.mem_of_getElem? (i := 0) rfl)
    generalize pf_L_val_L_val_to_b eq = pp0 at *
    generalize po_L_val_L_val_to_b eq = qq0 at *
    subst hfv0
    exact ⟨fn_contractF (M := M_eqf_row) rfl (tbl_ok (l1 := []) (l2 := []) (l3 := []) (l4 := []) (l5 := []) trivial trivial trivial trivial trivial) Tryz.func87 (by kernel_rfl) N_eqf_row 0 [.d] (fun hwf => (eqf_row_spec a b qq0 pp0 (wfArg hwf (a := .d (.v (.dat (U := Un) Ty.row a))) (List.mem_of_getElem? (i := 0) rfl)) (wfArg hwf (a := .d (.v (.dat (U := Un) Ty.row b))) (List.mem_of_getElem? (i := 1) rfl)) (hob _ (List.mem_of_getElem? (i := 1) rfl)))), hasBody_of Tryz.func87 (by kernel_rfl) (by kernel_rfl)⟩
  · simp at h
end
end Go.Proofs.YtmpnompddfhkeaaGreat.B
namespace Go.Proofs.YtmpnompddfhkeaaGreat.B
open Go Go.RowKit
set_option maxRecDepth 100000
noncomputable section
attribute [local irreducible] awp ctxK itersK iterK retQ retGQ awf ctxF loopF
noncomputable def algebra_SameTerm (a b : Term) : Bool := deq a b
noncomputable def algebra_sameAgg (a b : Agg) : Bool := deq a b
noncomputable def algebra_SameRel (a b : Rel) : Bool := deq a b
theorem name_eq (a b : ByteArray) : a.toList = b.toList ↔ a = b := by rw [← name_deq, beq_iff_eq]
theorem term_deq (a b : Term) : deq a b = true ↔ (a.op = b.op ∧ a.v = b.v ∧ a.depth = b.depth ∧ a.at_ = b.at_ ∧ a.name = b.name ∧ a.type = b.type ∧ a.kids = b.kids ∧ a.sub = b.sub) := by
  rw [deq_iff]
  constructor
  · rintro rfl; exact ⟨rfl, rfl, rfl, rfl, rfl, rfl, rfl, rfl⟩
  · rintro ⟨h1, h2, h3, h4, h5, h6, h7, h8⟩
    rw [← term_eta a, ← term_eta b, h1, h2, h3, h4, h5, h6, h7, h8]
theorem agg_deq (a b : Agg) : deq a b = true ↔ (a.name = b.name ∧ a.distinct = b.distinct ∧ a.t = b.t) := by
  rw [deq_iff]
  constructor
  · rintro rfl; exact ⟨rfl, rfl, rfl⟩
  · rintro ⟨h1, h2, h3⟩
    rw [← agg_eta a, ← agg_eta b, h1, h2, h3]
theorem rel_deq (a b : Rel) : deq a b = true ↔ (a.op = b.op ∧ a.table = b.table ∧ a.limit = b.limit ∧ a.skip = b.skip ∧ a.all = b.all ∧ a.cols = b.cols ∧ a.keys = b.keys ∧ a.rows = b.rows ∧ a.terms = b.terms ∧ a.aggs = b.aggs ∧ a.kids = b.kids) := by
  rw [deq_iff]
  constructor
  · rintro rfl; exact ⟨rfl, rfl, rfl, rfl, rfl, rfl, rfl, rfl, rfl, rfl, rfl⟩
  · rintro ⟨h1, h2, h3, h4, h5, h6, h7, h8, h9, h10, h11⟩
    rw [← rel_eta a, ← rel_eta b, h1, h2, h3, h4, h5, h6, h7, h8, h9, h10, h11]
theorem cndO_and {β : Type} (R : Bool → β) {q x : Bool} : cndO q (some (R x)) (some (R false)) = some (R (q && x)) := by cases q <;> rfl
theorem Agg.ht_t {a : Agg} {k : Term} (h : k ∈ a.t) : k.ht < a.ht := by
  cases a; simp only [Agg.t_mk] at h; simp only [Agg.ht]; have := htTs_mem h; omega
def A_algebra_SameTerm (r : Bool) : List (A Un) := [.c (.s (.bool r))]
def O_algebra_SameTerm (_r : Bool) : List (Ob Un) := []
def Fm_algebra_SameTerm (m : Nat) : FnC Un := fun args => match args with
  | [x0, x1] => (dS .term x0).bind fun a => (dS .term x1).bind fun b => some ([4 * a.ht + 1 < m], A_algebra_SameTerm (algebra_SameTerm a b), O_algebra_SameTerm (algebra_SameTerm a b))
  | _ => none
def A_algebra_sameAgg (r : Bool) : List (A Un) := [.c (.s (.bool r))]
def O_algebra_sameAgg (_r : Bool) : List (Ob Un) := []
def Fm_algebra_sameAgg (m : Nat) : FnC Un := fun args => match args with
  | [x0, x1] => (dS .agg x0).bind fun a => (dS .agg x1).bind fun b => some ([4 * a.ht + 2 < m], A_algebra_sameAgg (algebra_sameAgg a b), O_algebra_sameAgg (algebra_sameAgg a b))
  | _ => none
def A_algebra_SameRel (r : Bool) : List (A Un) := [.c (.s (.bool r))]
def O_algebra_SameRel (_r : Bool) : List (Ob Un) := []
def Fm_algebra_SameRel (m : Nat) : FnC Un := fun args => match args with
  | [x0, x1] => (dS .rel x0).bind fun a => (dS .rel x1).bind fun b => some ([4 * a.ht + 3 < m], A_algebra_SameRel (algebra_SameRel a b), O_algebra_SameRel (algebra_SameRel a b))
  | _ => none
def Vm_algebra_SameTerm (m : Nat) : FV Un := fvo_S_term_S_term_to_b (fun a b => (4 * a.ht + 1 < m)) (fun a b => algebra_SameTerm a b)
theorem okVm_algebra_SameTerm (m : Nat) (h_algebra_SameTerm : FnOK 90 (Fm_algebra_SameTerm m)) : FvOK 90 (Vm_algebra_SameTerm m) := by
  refine ⟨hasBody_of Tryz.func90 (by kernel_rfl) (by kernel_rfl), fun args ob rs h hob => ?_⟩
  unfold Vm_algebra_SameTerm fvo_S_term_S_term_to_b at h
  split at h
  · simp only [Option.bind_eq_some_iff, Option.some.injEq, Prod.mk.injEq] at h
    obtain ⟨a, e0, b, e1, rfl, rfl⟩ := h
    simp only [List.map_cons, List.map_nil]
    rw [dS_eq e0]
    rw [dS_eq e1]
    refine Contract.data (h_algebra_SameTerm _ [4 * a.ht + 1 < m] _ _ (?_ : Fm_algebra_SameTerm m _ = some _) (fun p hp => by rw [List.mem_singleton.1 hp]; simpa using hob _ List.mem_cons_self)).1
    unfold Fm_algebra_SameTerm
    simp only [dSk_mk]
    rfl
  · simp at h
def Vm_algebra_sameAgg (m : Nat) : FV Un := fvo_S_agg_S_agg_to_b (fun a b => (4 * a.ht + 2 < m)) (fun a b => algebra_sameAgg a b)
theorem okVm_algebra_sameAgg (m : Nat) (h_algebra_sameAgg : FnOK 92 (Fm_algebra_sameAgg m)) : FvOK 92 (Vm_algebra_sameAgg m) := by
  refine ⟨hasBody_of Tryz.func92 (by kernel_rfl) (by kernel_rfl), fun args ob rs h hob => ?_⟩
  unfold Vm_algebra_sameAgg fvo_S_agg_S_agg_to_b at h
  split at h
  · simp only [Option.bind_eq_some_iff, Option.some.injEq, Prod.mk.injEq] at h
    obtain ⟨a, e0, b, e1, rfl, rfl⟩ := h
    simp only [List.map_cons, List.map_nil]
    rw [dS_eq e0]
    rw [dS_eq e1]
    refine Contract.data (h_algebra_sameAgg _ [4 * a.ht + 2 < m] _ _ (?_ : Fm_algebra_sameAgg m _ = some _) (fun p hp => by rw [List.mem_singleton.1 hp]; simpa using hob _ List.mem_cons_self)).1
    unfold Fm_algebra_sameAgg
    simp only [dSk_mk]
    rfl
  · simp at h
def Vm_algebra_SameRel (m : Nat) : FV Un := fvo_S_rel_S_rel_to_b (fun a b => (4 * a.ht + 3 < m)) (fun a b => algebra_SameRel a b)
theorem okVm_algebra_SameRel (m : Nat) (h_algebra_SameRel : FnOK 22 (Fm_algebra_SameRel m)) : FvOK 22 (Vm_algebra_SameRel m) := by
  refine ⟨hasBody_of Tryz.func22 (by kernel_rfl) (by kernel_rfl), fun args ob rs h hob => ?_⟩
  unfold Vm_algebra_SameRel fvo_S_rel_S_rel_to_b at h
  split at h
  · simp only [Option.bind_eq_some_iff, Option.some.injEq, Prod.mk.injEq] at h
    obtain ⟨a, e0, b, e1, rfl, rfl⟩ := h
    simp only [List.map_cons, List.map_nil]
    rw [dS_eq e0]
    rw [dS_eq e1]
    refine Contract.data (h_algebra_SameRel _ [4 * a.ht + 3 < m] _ _ (?_ : Fm_algebra_SameRel m _ = some _) (fun p hp => by rw [List.mem_singleton.1 hp]; simpa using hob _ List.mem_cons_self)).1
    unfold Fm_algebra_SameRel
    simp only [dSk_mk]
    rfl
  · simp at h
theorem vmo_SameTerm (m : Nat) : po_S_term_S_term_to_b (Vm_algebra_SameTerm m) = fun a _ => 4 * a.ht + 1 < m := by unfold Vm_algebra_SameTerm; exact pofvo_S_term_S_term_to_b _ _
theorem vmf_SameTerm (m : Nat) : pf_S_term_S_term_to_b (Vm_algebra_SameTerm m) = deq := by unfold Vm_algebra_SameTerm; rw [pffvo_S_term_S_term_to_b]; unfold algebra_SameTerm; rfl
theorem vmv_SameTerm (m : Nat) : Vm_algebra_SameTerm m = fvo_S_term_S_term_to_b (po_S_term_S_term_to_b (Vm_algebra_SameTerm m)) (pf_S_term_S_term_to_b (Vm_algebra_SameTerm m)) := by unfold Vm_algebra_SameTerm; rw [pofvo_S_term_S_term_to_b, pffvo_S_term_S_term_to_b]
theorem vmo_sameAgg (m : Nat) : po_S_agg_S_agg_to_b (Vm_algebra_sameAgg m) = fun a _ => 4 * a.ht + 2 < m := by unfold Vm_algebra_sameAgg; exact pofvo_S_agg_S_agg_to_b _ _
theorem vmf_sameAgg (m : Nat) : pf_S_agg_S_agg_to_b (Vm_algebra_sameAgg m) = deq := by unfold Vm_algebra_sameAgg; rw [pffvo_S_agg_S_agg_to_b]; unfold algebra_sameAgg; rfl
theorem vmv_sameAgg (m : Nat) : Vm_algebra_sameAgg m = fvo_S_agg_S_agg_to_b (po_S_agg_S_agg_to_b (Vm_algebra_sameAgg m)) (pf_S_agg_S_agg_to_b (Vm_algebra_sameAgg m)) := by unfold Vm_algebra_sameAgg; rw [pofvo_S_agg_S_agg_to_b, pffvo_S_agg_S_agg_to_b]
theorem vmo_SameRel (m : Nat) : po_S_rel_S_rel_to_b (Vm_algebra_SameRel m) = fun a _ => 4 * a.ht + 3 < m := by unfold Vm_algebra_SameRel; exact pofvo_S_rel_S_rel_to_b _ _
theorem vmf_SameRel (m : Nat) : pf_S_rel_S_rel_to_b (Vm_algebra_SameRel m) = deq := by unfold Vm_algebra_SameRel; rw [pffvo_S_rel_S_rel_to_b]; unfold algebra_SameRel; rfl
theorem vmv_SameRel (m : Nat) : Vm_algebra_SameRel m = fvo_S_rel_S_rel_to_b (po_S_rel_S_rel_to_b (Vm_algebra_SameRel m)) (pf_S_rel_S_rel_to_b (Vm_algebra_SameRel m)) := by unfold Vm_algebra_SameRel; rw [pofvo_S_rel_S_rel_to_b, pffvo_S_rel_S_rel_to_b]
theorem vo_sameRow : po_L_val_L_val_to_b V_algebra_sameRow = fun _ _ => True := by unfold V_algebra_sameRow; exact pofvo_L_val_L_val_to_b _ _
theorem vf_sameRow : pf_L_val_L_val_to_b V_algebra_sameRow = deq := by unfold V_algebra_sameRow; rw [pffvo_L_val_L_val_to_b]; unfold algebra_sameRow eql_val; rfl
theorem vv_sameRow : V_algebra_sameRow = fvo_L_val_L_val_to_b (po_L_val_L_val_to_b V_algebra_sameRow) (pf_L_val_L_val_to_b V_algebra_sameRow) := by unfold V_algebra_sameRow; rw [pofvo_L_val_L_val_to_b, pffvo_L_val_L_val_to_b]
def M_algebra_SameTerm (m : Nat) : Mc Un := mach (tbl [(89, F_eqf_term), (93, F_eqf_rel)]) (tbl [(90, Vm_algebra_SameTerm m), (22, Vm_algebra_SameRel m)]) (tbl []) (tbl []) (tbl [])
def R_algebra_SameTerm (r : Bool) : RF Un := (A_algebra_SameTerm r, O_algebra_SameTerm r)
def N_algebra_SameTerm : Nat → NS := fun l => (look l []).getD ⟨[], [], [], [], []⟩
def algebra_SameTerm_fn (m : Nat) (a : Term) (b : Term) : Option (RF Un) := awf (M_algebra_SameTerm m) N_algebra_SameTerm (bodyOf Tryz.f90) (entry Tryz.f90.ntmps 0 [.d (.agg (enc Ty.term a)), .d (.agg (enc Ty.term b))]) (retF (M_algebra_SameTerm m) Tryz.f90.results.toList [.d])
theorem algebra_SameTerm_in (m : Nat) (a : Term) (b : Term) : algebra_SameTerm_fn m a b =
 cndO (a.op == b.op)
  (cndO (andB [EK.int IntKind.i64, EK.str] (a.v.kind == b.v.kind) (andB [EK.str] (a.v.n == b.v.n) (andB [] (a.v.s.toList == b.v.s.toList) true)))
   (cndO (a.depth == b.depth)
    (cndO (a.at_ == b.at_)
     (cndO (a.name.toList == b.name.toList)
      (cndO (a.type == b.type)
       (obO (Vm_algebra_SameTerm m = fvo_S_term_S_term_to_b (po_S_term_S_term_to_b (Vm_algebra_SameTerm m)) (pf_S_term_S_term_to_b (Vm_algebra_SameTerm m)))
        (obO (eqfO_term (po_S_term_S_term_to_b (Vm_algebra_SameTerm m)) a.kids b.kids)
         (cndO (eqf_term a.kids b.kids (po_S_term_S_term_to_b (Vm_algebra_SameTerm m)) (pf_S_term_S_term_to_b (Vm_algebra_SameTerm m)))
          (obO (Vm_algebra_SameRel m = fvo_S_rel_S_rel_to_b (po_S_rel_S_rel_to_b (Vm_algebra_SameRel m)) (pf_S_rel_S_rel_to_b (Vm_algebra_SameRel m)))
           (obO (eqfO_rel (po_S_rel_S_rel_to_b (Vm_algebra_SameRel m)) a.sub b.sub)
            (some (R_algebra_SameTerm (eqf_rel a.sub b.sub (po_S_rel_S_rel_to_b (Vm_algebra_SameRel m)) (pf_S_rel_S_rel_to_b (Vm_algebra_SameRel m)))))))
          (some (R_algebra_SameTerm (false))))))
       (some (R_algebra_SameTerm (false))))
      (some (R_algebra_SameTerm (false))))
     (some (R_algebra_SameTerm (false))))
    (some (R_algebra_SameTerm (false))))
   (some (R_algebra_SameTerm (false))))
  (some (R_algebra_SameTerm (false))) := by kernel_rfl
theorem algebra_SameTerm_spec (m : Nat) (a b : Term) (_ha : WS .term a) (_hb : WS .term b) (h : 4 * a.ht + 1 < m + 1) : algebra_SameTerm_fn m a b = some (R_algebra_SameTerm (algebra_SameTerm a b)) := by
  have o1 : eqfO_term (po_S_term_S_term_to_b (Vm_algebra_SameTerm m)) a.kids b.kids := by
    rw [vmo_SameTerm]
    intro _ i hi
    have := Term.ht_kid (getD_mem (d := zeroTerm) hi)
    show 4 * _ + 1 < m
    omega
  have o2 : eqfO_rel (po_S_rel_S_rel_to_b (Vm_algebra_SameRel m)) a.sub b.sub := by
    rw [vmo_SameRel]
    intro _ i hi
    have := Term.ht_sub (getD_mem (d := zeroRel) hi)
    show 4 * _ + 3 < m
    omega
  rw [algebra_SameTerm_in, eqVal, obO_pos (vmv_SameTerm m), obO_pos o1, obO_pos (vmv_SameRel m), obO_pos o2]
  simp only [cndO_and R_algebra_SameTerm, vmf_SameTerm, vmf_SameRel]
  congr 2
  unfold algebra_SameTerm eqf_term eqf_rel
  rw [eqfA_deq, eqfA_deq, Bool.eq_iff_iff, term_deq]
  simp only [Bool.and_eq_true, beq_iff_eq, name_eq, deq_iff]
theorem okm_algebra_SameTerm (m : Nat) (h_algebra_SameTerm : FnOK 90 (Fm_algebra_SameTerm m)) (h_algebra_sameAgg : FnOK 92 (Fm_algebra_sameAgg m)) (h_algebra_SameRel : FnOK 22 (Fm_algebra_SameRel m)) : FnOK 90 (Fm_algebra_SameTerm (m + 1)) := by
  intro args ob rs os h hob
  unfold Fm_algebra_SameTerm at h
  split at h
  · simp only [Option.bind_eq_some_iff, Option.some.injEq, Prod.mk.injEq] at h
    obtain ⟨a, e0, b, e1, rfl, rfl, rfl⟩ := h
    obtain rfl := dS_eq e0
    obtain rfl := dS_eq e1
    exact ⟨fn_contractF (M := (M_algebra_SameTerm m)) rfl (tbl_ok (l1 := [(89, F_eqf_term), (93, F_eqf_rel)]) (l2 := [(90, Vm_algebra_SameTerm m), (22, Vm_algebra_SameRel m)]) (l3 := []) (l4 := []) (l5 := []) ⟨ok_eqf_term, ok_eqf_rel, trivial⟩ ⟨(okVm_algebra_SameTerm m h_algebra_SameTerm), (okVm_algebra_SameRel m h_algebra_SameRel), trivial⟩ trivial trivial trivial) Tryz.func90 (by kernel_rfl) N_algebra_SameTerm 0 [.d] (fun hwf => (algebra_SameTerm_spec m a b (wfArg hwf (a := .d (.agg (enc Ty.term a))) (List.mem_of_getElem? (i := 0) rfl)) (wfArg hwf (a := .d (.agg (enc Ty.term b))) (List.mem_of_getElem? (i := 1) rfl)) (hob _ (List.mem_of_getElem? (i := 0) rfl)))), hasBody_of Tryz.func90 (by kernel_rfl) (by kernel_rfl)⟩
  · simp at h
def M_algebra_sameAgg (m : Nat) : Mc Un := mach (tbl [(89, F_eqf_term)]) (tbl [(90, Vm_algebra_SameTerm m)]) (tbl []) (tbl []) (tbl [])
def R_algebra_sameAgg (r : Bool) : RF Un := (A_algebra_sameAgg r, O_algebra_sameAgg r)
def N_algebra_sameAgg : Nat → NS := fun l => (look l []).getD ⟨[], [], [], [], []⟩
def algebra_sameAgg_fn (m : Nat) (a : Agg) (b : Agg) : Option (RF Un) := awf (M_algebra_sameAgg m) N_algebra_sameAgg (bodyOf Tryz.f92) (entry Tryz.f92.ntmps 0 [.d (.agg (enc Ty.agg a)), .d (.agg (enc Ty.agg b))]) (retF (M_algebra_sameAgg m) Tryz.f92.results.toList [.d])
theorem algebra_sameAgg_in (m : Nat) (a : Agg) (b : Agg) : algebra_sameAgg_fn m a b =
 cndO (a.name.toList == b.name.toList)
  (cndO (a.distinct == b.distinct)
   (obO (Vm_algebra_SameTerm m = fvo_S_term_S_term_to_b (po_S_term_S_term_to_b (Vm_algebra_SameTerm m)) (pf_S_term_S_term_to_b (Vm_algebra_SameTerm m)))
    (obO (eqfO_term (po_S_term_S_term_to_b (Vm_algebra_SameTerm m)) a.t b.t)
     (some (R_algebra_sameAgg (eqf_term a.t b.t (po_S_term_S_term_to_b (Vm_algebra_SameTerm m)) (pf_S_term_S_term_to_b (Vm_algebra_SameTerm m)))))))
   (some (R_algebra_sameAgg (false))))
  (some (R_algebra_sameAgg (false))) := by kernel_rfl
theorem algebra_sameAgg_spec (m : Nat) (a b : Agg) (_ha : WS .agg a) (_hb : WS .agg b) (h : 4 * a.ht + 2 < m + 1) : algebra_sameAgg_fn m a b = some (R_algebra_sameAgg (algebra_sameAgg a b)) := by
  have o1 : eqfO_term (po_S_term_S_term_to_b (Vm_algebra_SameTerm m)) a.t b.t := by
    rw [vmo_SameTerm]
    intro _ i hi
    have := Agg.ht_t (getD_mem (d := zeroTerm) hi)
    show 4 * _ + 1 < m
    omega
  rw [algebra_sameAgg_in, obO_pos (vmv_SameTerm m), obO_pos o1]
  simp only [cndO_and R_algebra_sameAgg, vmf_SameTerm]
  congr 2
  unfold algebra_sameAgg eqf_term
  rw [eqfA_deq, Bool.eq_iff_iff, agg_deq]
  simp only [Bool.and_eq_true, beq_iff_eq, name_eq, deq_iff]
theorem okm_algebra_sameAgg (m : Nat) (h_algebra_SameTerm : FnOK 90 (Fm_algebra_SameTerm m)) (h_algebra_sameAgg : FnOK 92 (Fm_algebra_sameAgg m)) (h_algebra_SameRel : FnOK 22 (Fm_algebra_SameRel m)) : FnOK 92 (Fm_algebra_sameAgg (m + 1)) := by
  intro args ob rs os h hob
  unfold Fm_algebra_sameAgg at h
  split at h
  · simp only [Option.bind_eq_some_iff, Option.some.injEq, Prod.mk.injEq] at h
    obtain ⟨a, e0, b, e1, rfl, rfl, rfl⟩ := h
    obtain rfl := dS_eq e0
    obtain rfl := dS_eq e1
    exact ⟨fn_contractF (M := (M_algebra_sameAgg m)) rfl (tbl_ok (l1 := [(89, F_eqf_term)]) (l2 := [(90, Vm_algebra_SameTerm m)]) (l3 := []) (l4 := []) (l5 := []) ⟨ok_eqf_term, trivial⟩ ⟨(okVm_algebra_SameTerm m h_algebra_SameTerm), trivial⟩ trivial trivial trivial) Tryz.func92 (by kernel_rfl) N_algebra_sameAgg 0 [.d] (fun hwf => (algebra_sameAgg_spec m a b (wfArg hwf (a := .d (.agg (enc Ty.agg a))) (List.mem_of_getElem? (i := 0) rfl)) (wfArg hwf (a := .d (.agg (enc Ty.agg b))) (List.mem_of_getElem? (i := 1) rfl)) (hob _ (List.mem_of_getElem? (i := 0) rfl)))), hasBody_of Tryz.func92 (by kernel_rfl) (by kernel_rfl)⟩
  · simp at h
def M_algebra_SameRel (m : Nat) : Mc Un := mach (tbl [(85, F_eql_col), (86, F_eql_by), (87, F_eqf_row), (89, F_eqf_term), (91, F_eqf_agg), (93, F_eqf_rel)]) (tbl [(88, V_algebra_sameRow), (90, Vm_algebra_SameTerm m), (92, Vm_algebra_sameAgg m), (22, Vm_algebra_SameRel m)]) (tbl []) (tbl []) (tbl [])
def R_algebra_SameRel (r : Bool) : RF Un := (A_algebra_SameRel r, O_algebra_SameRel r)
def N_algebra_SameRel : Nat → NS := fun l => (look l []).getD ⟨[], [], [], [], []⟩
def algebra_SameRel_fn (m : Nat) (a : Rel) (b : Rel) : Option (RF Un) := awf (M_algebra_SameRel m) N_algebra_SameRel (bodyOf Tryz.f22) (entry Tryz.f22.ntmps 0 [.d (.agg (enc Ty.rel a)), .d (.agg (enc Ty.rel b))]) (retF (M_algebra_SameRel m) Tryz.f22.results.toList [.d])
theorem algebra_SameRel_in (m : Nat) (a : Rel) (b : Rel) : algebra_SameRel_fn m a b =
 cndO (a.op == b.op)
  (cndO (a.table.toList == b.table.toList)
   (cndO (a.limit == b.limit)
    (cndO (a.skip == b.skip)
     (cndO (a.all == b.all)
      (cndO (eql_col a.cols b.cols)
       (cndO (eql_by a.keys b.keys)
        (obO (V_algebra_sameRow = fvo_L_val_L_val_to_b (po_L_val_L_val_to_b V_algebra_sameRow) (pf_L_val_L_val_to_b V_algebra_sameRow))
         (obO (eqfO_row (po_L_val_L_val_to_b V_algebra_sameRow) a.rows b.rows)
          (cndO (eqf_row a.rows b.rows (po_L_val_L_val_to_b V_algebra_sameRow) (pf_L_val_L_val_to_b V_algebra_sameRow))
           (obO (Vm_algebra_SameTerm m = fvo_S_term_S_term_to_b (po_S_term_S_term_to_b (Vm_algebra_SameTerm m)) (pf_S_term_S_term_to_b (Vm_algebra_SameTerm m)))
            (obO (eqfO_term (po_S_term_S_term_to_b (Vm_algebra_SameTerm m)) a.terms b.terms)
             (cndO (eqf_term a.terms b.terms (po_S_term_S_term_to_b (Vm_algebra_SameTerm m)) (pf_S_term_S_term_to_b (Vm_algebra_SameTerm m)))
              (obO (Vm_algebra_sameAgg m = fvo_S_agg_S_agg_to_b (po_S_agg_S_agg_to_b (Vm_algebra_sameAgg m)) (pf_S_agg_S_agg_to_b (Vm_algebra_sameAgg m)))
               (obO (eqfO_agg (po_S_agg_S_agg_to_b (Vm_algebra_sameAgg m)) a.aggs b.aggs)
                (cndO (eqf_agg a.aggs b.aggs (po_S_agg_S_agg_to_b (Vm_algebra_sameAgg m)) (pf_S_agg_S_agg_to_b (Vm_algebra_sameAgg m)))
                 (obO (Vm_algebra_SameRel m = fvo_S_rel_S_rel_to_b (po_S_rel_S_rel_to_b (Vm_algebra_SameRel m)) (pf_S_rel_S_rel_to_b (Vm_algebra_SameRel m)))
                  (obO (eqfO_rel (po_S_rel_S_rel_to_b (Vm_algebra_SameRel m)) a.kids b.kids)
                   (some (R_algebra_SameRel (eqf_rel a.kids b.kids (po_S_rel_S_rel_to_b (Vm_algebra_SameRel m)) (pf_S_rel_S_rel_to_b (Vm_algebra_SameRel m)))))))
                 (some (R_algebra_SameRel (false))))))
              (some (R_algebra_SameRel (false))))))
           (some (R_algebra_SameRel (false))))))
        (some (R_algebra_SameRel (false))))
       (some (R_algebra_SameRel (false))))
      (some (R_algebra_SameRel (false))))
     (some (R_algebra_SameRel (false))))
    (some (R_algebra_SameRel (false))))
   (some (R_algebra_SameRel (false))))
  (some (R_algebra_SameRel (false))) := by kernel_rfl
theorem algebra_SameRel_spec (m : Nat) (a b : Rel) (_ha : WS .rel a) (_hb : WS .rel b) (h : 4 * a.ht + 3 < m + 1) : algebra_SameRel_fn m a b = some (R_algebra_SameRel (algebra_SameRel a b)) := by
  have o0 : eqfO_row (po_L_val_L_val_to_b V_algebra_sameRow) a.rows b.rows := by
    rw [vo_sameRow]
    intro _ i hi
    trivial
  have o1 : eqfO_term (po_S_term_S_term_to_b (Vm_algebra_SameTerm m)) a.terms b.terms := by
    rw [vmo_SameTerm]
    intro _ i hi
    have := Rel.ht_term (getD_mem (d := zeroTerm) hi)
    show 4 * _ + 1 < m
    omega
  have o2 : eqfO_agg (po_S_agg_S_agg_to_b (Vm_algebra_sameAgg m)) a.aggs b.aggs := by
    rw [vmo_sameAgg]
    intro _ i hi
    have := Rel.ht_agg (getD_mem (d := zeroAgg) hi)
    show 4 * _ + 2 < m
    omega
  have o3 : eqfO_rel (po_S_rel_S_rel_to_b (Vm_algebra_SameRel m)) a.kids b.kids := by
    rw [vmo_SameRel]
    intro _ i hi
    have := Rel.ht_kid (getD_mem (d := zeroRel) hi)
    show 4 * _ + 3 < m
    omega
  rw [algebra_SameRel_in, obO_pos vv_sameRow, obO_pos o0, obO_pos (vmv_SameTerm m), obO_pos o1, obO_pos (vmv_sameAgg m), obO_pos o2, obO_pos (vmv_SameRel m), obO_pos o3]
  simp only [cndO_and R_algebra_SameRel, vmf_SameTerm, vmf_SameRel, vmf_sameAgg, vf_sameRow]
  congr 2
  unfold algebra_SameRel eqf_term eqf_rel eqf_agg eqf_row eql_col eql_by
  rw [eqfA_deq, eqfA_deq, eqfA_deq, eqfA_deq, Bool.eq_iff_iff, rel_deq]
  simp only [Bool.and_eq_true, beq_iff_eq, name_eq, deq_iff]
theorem okm_algebra_SameRel (m : Nat) (h_algebra_SameTerm : FnOK 90 (Fm_algebra_SameTerm m)) (h_algebra_sameAgg : FnOK 92 (Fm_algebra_sameAgg m)) (h_algebra_SameRel : FnOK 22 (Fm_algebra_SameRel m)) : FnOK 22 (Fm_algebra_SameRel (m + 1)) := by
  intro args ob rs os h hob
  unfold Fm_algebra_SameRel at h
  split at h
  · simp only [Option.bind_eq_some_iff, Option.some.injEq, Prod.mk.injEq] at h
    obtain ⟨a, e0, b, e1, rfl, rfl, rfl⟩ := h
    obtain rfl := dS_eq e0
    obtain rfl := dS_eq e1
    exact ⟨fn_contractF (M := (M_algebra_SameRel m)) rfl (tbl_ok (l1 := [(85, F_eql_col), (86, F_eql_by), (87, F_eqf_row), (89, F_eqf_term), (91, F_eqf_agg), (93, F_eqf_rel)]) (l2 := [(88, V_algebra_sameRow), (90, Vm_algebra_SameTerm m), (92, Vm_algebra_sameAgg m), (22, Vm_algebra_SameRel m)]) (l3 := []) (l4 := []) (l5 := []) ⟨ok_eql_col, ok_eql_by, ok_eqf_row, ok_eqf_term, ok_eqf_agg, ok_eqf_rel, trivial⟩ ⟨okV_algebra_sameRow, (okVm_algebra_SameTerm m h_algebra_SameTerm), (okVm_algebra_sameAgg m h_algebra_sameAgg), (okVm_algebra_SameRel m h_algebra_SameRel), trivial⟩ trivial trivial trivial) Tryz.func22 (by kernel_rfl) N_algebra_SameRel 0 [.d] (fun hwf => (algebra_SameRel_spec m a b (wfArg hwf (a := .d (.agg (enc Ty.rel a))) (List.mem_of_getElem? (i := 0) rfl)) (wfArg hwf (a := .d (.agg (enc Ty.rel b))) (List.mem_of_getElem? (i := 1) rfl)) (hob _ (List.mem_of_getElem? (i := 0) rfl)))), hasBody_of Tryz.func22 (by kernel_rfl) (by kernel_rfl)⟩
  · simp at h
theorem okAll_sameG : ∀ m, FnOK 90 (Fm_algebra_SameTerm m) ∧ FnOK 92 (Fm_algebra_sameAgg m) ∧ FnOK 22 (Fm_algebra_SameRel m)
  | 0 => by
    refine ⟨?_, ?_, ?_⟩
    · intro args ob rs os h hob
      unfold Fm_algebra_SameTerm at h
      split at h
      · simp only [Option.bind_eq_some_iff, Option.some.injEq, Prod.mk.injEq] at h
        obtain ⟨_, _, _, _, rfl, _, _⟩ := h
        exact absurd (hob _ (List.mem_of_getElem? (i := 0) rfl)) (Nat.not_lt_zero _)
      · simp at h
    · intro args ob rs os h hob
      unfold Fm_algebra_sameAgg at h
      split at h
      · simp only [Option.bind_eq_some_iff, Option.some.injEq, Prod.mk.injEq] at h
        obtain ⟨_, _, _, _, rfl, _, _⟩ := h
        exact absurd (hob _ (List.mem_of_getElem? (i := 0) rfl)) (Nat.not_lt_zero _)
      · simp at h
    · intro args ob rs os h hob
      unfold Fm_algebra_SameRel at h
      split at h
      · simp only [Option.bind_eq_some_iff, Option.some.injEq, Prod.mk.injEq] at h
        obtain ⟨_, _, _, _, rfl, _, _⟩ := h
        exact absurd (hob _ (List.mem_of_getElem? (i := 0) rfl)) (Nat.not_lt_zero _)
      · simp at h
  | m + 1 => by
    have ih := okAll_sameG m
    exact ⟨okm_algebra_SameTerm m ih.1 ih.2.1 ih.2.2, okm_algebra_sameAgg m ih.1 ih.2.1 ih.2.2, okm_algebra_SameRel m ih.1 ih.2.1 ih.2.2⟩
def F_algebra_SameRel : FnC Un := fun args => match args with
  | [x0, x1] => (dS .rel x0).bind fun a => (dS .rel x1).bind fun b => some ([], A_algebra_SameRel (algebra_SameRel a b), O_algebra_SameRel (algebra_SameRel a b))
  | _ => none
theorem ok_algebra_SameRel : FnOK 22 F_algebra_SameRel := by
  intro args ob rs os h hob
  unfold F_algebra_SameRel at h
  split at h
  · simp only [Option.bind_eq_some_iff, Option.some.injEq, Prod.mk.injEq] at h
    obtain ⟨a, e0, b, e1, rfl, rfl, rfl⟩ := h
    refine ((okAll_sameG (4 * a.ht + 3 + 1)).2.2) _ [4 * a.ht + 3 < 4 * a.ht + 3 + 1] _ _ (?_ : Fm_algebra_SameRel (4 * a.ht + 3 + 1) _ = some _) ?_
    · unfold Fm_algebra_SameRel
      simp only [e0, e1, Option.bind_some]
    · intro p hp
      simp only [List.mem_cons, List.not_mem_nil, or_false] at hp
      subst hp
      exact Nat.lt_succ_self _
  · simp at h
end
end Go.Proofs.YtmpnompddfhkeaaGreat.B
namespace Go.Proofs.YtmpnompddfhkeaaGreat.B
open Go Go.RowKit
set_option maxRecDepth 100000
noncomputable section
attribute [local irreducible] awp ctxK itersK iterK retQ retGQ
def M_r03_ints : Mc Un := mach (tbl []) (tbl []) (tbl []) (tbl []) (tbl [])
def N_r03_ints : Nat → NS := fun l => (look l []).getD ⟨[], [], [], [], []⟩
def A_r03_ints (r : Int) : List (A Un) := [.c (.s (.int .i64 r))]
def O_r03_ints (_r : Int) : List (Ob Un) := []
theorem r03_ints_in (a : Int) (b : Int) (K : List (A Un) → List (Ob Un) → Prop) :
    awp M_r03_ints N_r03_ints (bodyOf Tryz.f180) (entry Tryz.f180.ntmps 0 [.d (.v (.s (.int .i64 a))), .d (.v (.s (.int .i64 b)))]) (retQ M_r03_ints Tryz.f180.results.toList [.d] K) =
(cnd (decide (a < b))
 (K (A_r03_ints ((-1 : Int))) (O_r03_ints ((-1 : Int))))
 (cnd (decide (a > b))
  (K (A_r03_ints ((1 : Int))) (O_r03_ints ((1 : Int))))
  (K (A_r03_ints ((0 : Int))) (O_r03_ints ((0 : Int)))))) := by kernel_rfl
def r03_ints_fn (a : Int) (b : Int) : Option (Int) :=
  if (decide (a < b)) = true then
   some ((-1 : Int))
  else
   if (decide (a > b)) = true then
    some ((1 : Int))
   else
    some ((0 : Int))
theorem r03_ints_run {a : Int} {b : Int} {r : Int} (h : r03_ints_fn a b = some r) : Runs (awp M_r03_ints N_r03_ints (bodyOf Tryz.f180) (entry Tryz.f180.ntmps 0 [.d (.v (.s (.int .i64 a))), .d (.v (.s (.int .i64 b)))]) (retQ M_r03_ints Tryz.f180.results.toList [.d] fun rs os => rs = A_r03_ints r ∧ os = O_r03_ints r)) := by
  constructor
  rw [r03_ints_in a b (fun rs os => rs = A_r03_ints r ∧ os = O_r03_ints r)]
  unfold r03_ints_fn at h
  rcases ite_some h with ⟨c1, h2⟩ | ⟨c1, h2⟩
  · cases h2
    exact (cnd_t c1 ⟨rfl, rfl⟩)
  · rcases ite_some h2 with ⟨c3, h4⟩ | ⟨c3, h4⟩
    · cases h4
      exact (cnd_f (bfalse c1) (cnd_t c3 ⟨rfl, rfl⟩))
    · cases h4
      exact (cnd_f (bfalse c1) (cnd_f (bfalse c3) ⟨rfl, rfl⟩))
def r03_ints (a : Int) (b : Int) : Int :=
  if (decide (a < b)) = true then
   ((-1 : Int))
  else
   if (decide (a > b)) = true then
    ((1 : Int))
   else
    ((0 : Int))
theorem r03_ints_eq (a : Int) (b : Int) : r03_ints_fn a b = some (r03_ints a b) := by unfold r03_ints_fn r03_ints; repeat (first | rfl | split)
def F_r03_ints : FnC Un := fun args => match args with
  | [x0, x1] => (dI .i64 x0).bind fun a => (dI .i64 x1).bind fun b => some ([], A_r03_ints (r03_ints a b), O_r03_ints (r03_ints a b))
  | _ => none
theorem ok_r03_ints : FnOK 180 F_r03_ints := by
  intro args ob rs os h hob
  unfold F_r03_ints at h
  split at h
  · simp only [Option.bind_eq_some_iff, Option.some.injEq, Prod.mk.injEq] at h
    obtain ⟨a, e0, b, e1, rfl, rfl, rfl⟩ := h
    obtain rfl := dI_eq e0
    obtain rfl := dI_eq e1
    exact ⟨fn_contract (M := M_r03_ints) rfl (tbl_ok (l1 := []) (l2 := []) (l3 := []) (l4 := []) (l5 := []) trivial trivial trivial trivial trivial) Tryz.func180 (by kernel_rfl) N_r03_ints 0 [.d] (fun hwf => r03_ints_run (r03_ints_eq a b)), hasBody_of Tryz.func180 (by kernel_rfl) (by kernel_rfl)⟩
  · simp at h
@[simp] theorem r03_ints_spec (a b : Int) : r03_ints a b = cmpI a b := by
  unfold r03_ints cmpI; simp only [decide_eq_true_eq]
def M_r03_texts : Mc Un := mach (tbl [(180, F_r03_ints)]) (tbl []) (tbl []) (tbl []) (tbl [])
def N_r03_texts : Nat → NS := fun l => (look l [(2, { ts := [true, true, false, false, true, true, false, false, false, false, false, false, false, false, false, false, false, false, false, false, false, false, false, false, false, false, false, false, false, false, false, false, false, false, false, false, false, false, false], bs := [false, false, false, false, false, false, false, false, false, false, false, false, false, false, false, false, false, false, false, false, false, false, false, false, false, false, false, false, false, false, false, false, false, false, false, false, false, false, false], nm := [], gb := [], gs := [] })]).getD ⟨[], [], [], [], []⟩
def A_r03_texts (r : Int) : List (A Un) := [.c (.s (.int .i64 r))]
def O_r03_texts (_r : Int) : List (Ob Un) := []
def r03_texts_s2 (a : ByteArray) (b : ByteArray) (v0 : Int) : S Un := (st 39 39 156 0 [(0, AV.one (A.c (C.s (Value.string a)))), (1, AV.one (A.c (C.s (Value.string b)))), (4, AV.one (A.c (C.s (Value.int IntKind.i64 (0 : Int))))), (5, AV.one (A.c (C.s (Value.int IntKind.i64 v0))))] [] [])
def r03_texts_e2_ret (a : ByteArray) (b : ByteArray) (v0 : Int) (v1 : Int) : S Un := (st 39 39 156 0 [(0, AV.one (A.c (C.s (Value.string a)))), (1, AV.one (A.c (C.s (Value.string b)))), (4, AV.one (A.c (C.s (Value.int IntKind.i64 v1)))), (5, AV.one (A.c (C.s (Value.int IntKind.i64 v0))))] [] [])
theorem r03_texts_in (a : ByteArray) (b : ByteArray) (K : List (A Un) → List (Ob Un) → Prop) :
    awp M_r03_texts N_r03_texts (bodyOf Tryz.f196) (entry Tryz.f196.ntmps 0 [.d (.v (cs a)), .d (.v (cs b))]) (retQ M_r03_texts Tryz.f196.results.toList [.d] K) =
(itersK (N_r03_texts 2) (awp M_r03_texts N_r03_texts (sub (bodyOf Tryz.f196) [1, 0, 1, 2, 2])) (ctxK M_r03_texts N_r03_texts (bodyOf Tryz.f196) [1, 0, 1, 2] (retQ M_r03_texts Tryz.f196.results.toList [.d] K)) (r03_texts_s2 a b (0 : Int))) := by kernel_rfl
theorem r03_texts_l2 (a : ByteArray) (b : ByteArray) (v0 : Int) (k : Nat) (Q : Exit → S Un → Prop) :
    iterK (N_r03_texts 2) (awp M_r03_texts N_r03_texts (sub (bodyOf Tryz.f196) [1, 0, 1, 2, 2])) Q (k + 1) (r03_texts_s2 a b v0) =
(cnd (decide (v0 < (↑a.size : Int)))
 (cnd (decide (v0 < (↑b.size : Int)))
  (((0 : Int) ≤ v0 ∧ v0 < (↑a.size : Int)) ∧
  (((0 : Int) ≤ v0 ∧ v0 < (↑b.size : Int)) ∧
  (cnd ((↑(a.toList.getD v0.toNat (0 : UInt8)).toNat : Int) != (↑(b.toList.getD v0.toNat (0 : UInt8)).toNat : Int))
   (((0 : Int) ≤ v0 ∧ v0 < (↑a.size : Int)) ∧
   (((0 : Int) ≤ v0 ∧ v0 < (↑b.size : Int)) ∧
   (Q .ret (r03_texts_e2_ret a b v0 (r03_ints (IntKind.i64.wrap (↑(a.toList.getD v0.toNat (0 : UInt8)).toNat : Int)) (IntKind.i64.wrap (↑(b.toList.getD v0.toNat (0 : UInt8)).toNat : Int)))))))
   (iterK (N_r03_texts 2) (awp M_r03_texts N_r03_texts (sub (bodyOf Tryz.f196) [1, 0, 1, 2, 2])) Q k (r03_texts_s2 a b (IntKind.i64.wrap (v0 + (1 : Int))))))))
  (Q (.exit 0) (r03_texts_s2 a b v0)))
 (Q (.exit 0) (r03_texts_s2 a b v0))) := by kernel_rfl
theorem r03_texts_a2_ret (a : ByteArray) (b : ByteArray) (v0 : Int) (v1 : Int) (K : List (A Un) → List (Ob Un) → Prop) :
    ctxK M_r03_texts N_r03_texts (bodyOf Tryz.f196) [1, 0, 1, 2] (retQ M_r03_texts Tryz.f196.results.toList [.d] K) .ret (r03_texts_e2_ret a b v0 v1) =
(K (A_r03_texts (v1)) (O_r03_texts (v1))) := by kernel_rfl
theorem r03_texts_a2_x0 (a : ByteArray) (b : ByteArray) (v0 : Int) (K : List (A Un) → List (Ob Un) → Prop) :
    ctxK M_r03_texts N_r03_texts (bodyOf Tryz.f196) [1, 0, 1, 2] (retQ M_r03_texts Tryz.f196.results.toList [.d] K) (.exit 0) (r03_texts_s2 a b v0) =
(K (A_r03_texts (r03_ints (↑a.size : Int) (↑b.size : Int))) (O_r03_texts (r03_ints (↑a.size : Int) (↑b.size : Int)))) := by kernel_rfl
def r03_texts_S2 (a : ByteArray) (b : ByteArray) (v : Int) : Option ((Int) ⊕ ((Int × Int) ⊕ (Int))) :=
  if (decide (v < (↑a.size : Int))) = true then
   if (decide (v < (↑b.size : Int))) = true then
    if (0 : Int) ≤ v ∧ v < (↑a.size : Int) then
     if (0 : Int) ≤ v ∧ v < (↑b.size : Int) then
      if ((↑(a.toList.getD v.toNat (0 : UInt8)).toNat : Int) != (↑(b.toList.getD v.toNat (0 : UInt8)).toNat : Int)) = true then
       if (0 : Int) ≤ v ∧ v < (↑a.size : Int) then
        if (0 : Int) ≤ v ∧ v < (↑b.size : Int) then
         some (.inr (.inl (v, (r03_ints (IntKind.i64.wrap (↑(a.toList.getD v.toNat (0 : UInt8)).toNat : Int)) (IntKind.i64.wrap (↑(b.toList.getD v.toNat (0 : UInt8)).toNat : Int))))))
        else none
       else none
      else
       some (.inl (IntKind.i64.wrap (v + (1 : Int))))
     else none
    else none
   else
    some (.inr (.inr v))
  else
   some (.inr (.inr v))
def r03_texts_L2 (a : ByteArray) (b : ByteArray) (v : Int) : Option ((Int × Int) ⊕ (Int)) := loopO (r03_texts_S2 a b) v
theorem r03_texts_L2_eq (a : ByteArray) (b : ByteArray) (v : Int) : r03_texts_L2 a b v = stepB (r03_texts_L2 a b) (r03_texts_S2 a b v) := loopO_eq _ _
def r03_texts_Q2 (a : ByteArray) (b : ByteArray) (r : (Int × Int) ⊕ (Int)) (Q : Exit → S Un → Prop) : Prop := match r with | .inl x => Q .ret (r03_texts_e2_ret a b x.1 x.2) | .inr x => Q (.exit 0) (r03_texts_s2 a b x)
theorem r03_texts_Q2_ret {a : ByteArray} {b : ByteArray} {x : Int × Int} {Q : Exit → S Un → Prop} (h : Q .ret (r03_texts_e2_ret a b x.1 x.2)) : r03_texts_Q2 a b (.inl x) Q := h
theorem r03_texts_Q2_x0 {a : ByteArray} {b : ByteArray} {x : Int} {Q : Exit → S Un → Prop} (h : Q (.exit 0) (r03_texts_s2 a b x)) : r03_texts_Q2 a b (.inr x) Q := h
theorem r03_texts_L2_run {a : ByteArray} {b : ByteArray} {v : Int} {r : (Int × Int) ⊕ (Int)} (h : r03_texts_L2 a b v = some r) (Q : Exit → S Un → Prop) (hQ : r03_texts_Q2 a b r Q) : itersK (N_r03_texts 2) (awp M_r03_texts N_r03_texts (sub (bodyOf Tryz.f196) [1, 0, 1, 2, 2])) Q (r03_texts_s2 a b v) := by
  refine @loop_run _ _ (r03_texts_S2 a b) (fun v => itersK (N_r03_texts 2) (awp M_r03_texts N_r03_texts (sub (bodyOf Tryz.f196) [1, 0, 1, 2, 2])) Q (r03_texts_s2 a b v)) (fun r => r03_texts_Q2 a b r Q) ?_ v r h hQ
  intro v o h hI
  unfold r03_texts_S2 at h
  rcases ite_some h with ⟨c1, h2⟩ | ⟨c1, h2⟩
  · rcases ite_some h2 with ⟨c3, h4⟩ | ⟨c3, h4⟩
    · obtain ⟨c5, h6⟩ := ob_some h4
      obtain ⟨c7, h8⟩ := ob_some h6
      rcases ite_some h8 with ⟨c9, h10⟩ | ⟨c9, h10⟩
      · obtain ⟨c11, h12⟩ := ob_some h10
        obtain ⟨c13, h14⟩ := ob_some h12
        cases h14
        exact itersK_mk 1 (mpr (r03_texts_l2 a b v 0 Q) (cnd_t c1 (cnd_t c3 (And.intro c5 (And.intro c7 (cnd_t c9 (And.intro c11 (And.intro c13 hI))))))))
      · cases h10
        obtain ⟨k15, hk16⟩ := itersK_get hI
        exact itersK_mk (k15 + 1) (mpr (r03_texts_l2 a b v k15 Q) (cnd_t c1 (cnd_t c3 (And.intro c5 (And.intro c7 (cnd_f (bfalse c9) hk16))))))
    · cases h4
      exact itersK_mk 1 (mpr (r03_texts_l2 a b v 0 Q) (cnd_t c1 (cnd_f (bfalse c3) hI)))
  · cases h2
    exact itersK_mk 1 (mpr (r03_texts_l2 a b v 0 Q) (cnd_f (bfalse c1) hI))
def r03_texts_fn (a : ByteArray) (b : ByteArray) : Option (Int) :=
  (r03_texts_L2 a b (0 : Int)) >>= fun o17 => match o17 with
   | .inl o18 =>
     some (o18.2)
   | .inr o19 =>
     some (r03_ints (↑a.size : Int) (↑b.size : Int))
theorem r03_texts_run {a : ByteArray} {b : ByteArray} {r : Int} (h : r03_texts_fn a b = some r) : Runs (awp M_r03_texts N_r03_texts (bodyOf Tryz.f196) (entry Tryz.f196.ntmps 0 [.d (.v (cs a)), .d (.v (cs b))]) (retQ M_r03_texts Tryz.f196.results.toList [.d] fun rs os => rs = A_r03_texts r ∧ os = O_r03_texts r)) := by
  constructor
  rw [r03_texts_in a b (fun rs os => rs = A_r03_texts r ∧ os = O_r03_texts r)]
  unfold r03_texts_fn at h
  obtain ⟨o20, ho21, h22⟩ := bind_some h
  rcases o20 with o23 | o24
  · cases h22
    exact (r03_texts_L2_run ho21 _ (r03_texts_Q2_ret (mpr (r03_texts_a2_ret a b o23.1 o23.2 _) ⟨rfl, rfl⟩)))
  · cases h22
    exact (r03_texts_L2_run ho21 _ (r03_texts_Q2_x0 (mpr (r03_texts_a2_x0 a b o24 _) ⟨rfl, rfl⟩)))
def r03_texts (a b : ByteArray) : Int := cmpS a b
@[simp] theorem r03_texts_eq (a b : ByteArray) : r03_texts a b = cmpS a b := by unfold r03_texts; rfl
theorem r03_texts_loop (a b : ByteArray) (ha : WStr a) (hb : WStr b) : ∀ (ra rb : List UInt8) (i : Nat), a.toList.drop i = ra → b.toList.drop i = rb → i ≤ a.size → i ≤ b.size →
    ∃ o, r03_texts_L2 a b i = some o ∧ (match o with | .inl o => o.2 | .inr _ => cmpI a.size b.size) = cmpL ra rb := by
  intro ra
  induction ra with
  | nil =>
    intro rb i h1 h2 h3 h4
    have e1 := drop_len h1; have e2 := drop_len h2
    rw [toList_size] at e1 e2
    simp only [List.length_nil] at e1
    have hn : ¬ ((i : Int) < a.size) := by omega
    refine ⟨.inr i, by rw [r03_texts_L2_eq, r03_texts_S2]; simp [hn], ?_⟩
    simp only
    cases rb with
    | nil => simp at e2; unfold cmpI cmpL; rw [if_neg (by omega), if_neg (by omega)]
    | cons y rb => simp at e2; unfold cmpI cmpL; rw [if_pos (by omega)]
  | cons x ra ih =>
    intro rb i h1 h2 h3 h4
    obtain ⟨a1, a2, a3, _⟩ := drop_cons h1
    rw [toList_size] at a1
    have hp : (i : Int) < a.size := by omega
    cases rb with
    | nil =>
      have e2 := drop_len h2
      rw [toList_size] at e2
      simp only [List.length_nil] at e2
      have hn : ¬ ((i : Int) < b.size) := by omega
      refine ⟨.inr i, by rw [r03_texts_L2_eq, r03_texts_S2]; simp [hn, hp], ?_⟩
      simp only; unfold cmpI cmpL; rw [if_neg (by omega), if_pos (by omega)]
    | cons y rb =>
      obtain ⟨b1, b2, b3, _⟩ := drop_cons h2
      rw [toList_size] at b1
      have hq : (i : Int) < b.size := by omega
      have hi : (0 : Int) ≤ i := by omega
      rw [r03_texts_L2_eq, r03_texts_S2]
      simp only [hp, hq, hi, decide_true, if_true, true_and, and_self, Int.toNat_natCast, a2, b2]
      by_cases hxy : x = y
      · subst hxy
        simp only [bne_self_eq_false, Bool.false_eq_true, if_false]
        rw [wrap_succ a1 ha]
        simpa only [cmpL, if_true, stepB_inl] using ih rb (i + 1) a3 b3 (by omega) (by omega)
      · have hne : ((x.toNat : Int) != (y.toNat : Int)) = true := by
          rw [bne_iff_ne]; intro e; exact hxy (UInt8.toNat_inj.1 (by omega))
        have hx := x.toNat_lt; have hy := y.toNat_lt
        refine ⟨_, by rw [if_pos hne, stepB_inr], ?_⟩
        simp only [cmpL, hxy, if_false, r03_ints_spec]
        rw [wrap_id (by omega), wrap_id (by omega)]
theorem r03_texts_spec (a b : ByteArray) (ha : WStr a) (hb : WStr b) : r03_texts_fn a b = some (r03_texts a b) := by
  obtain ⟨o, ho, e⟩ := r03_texts_loop a b ha hb _ _ 0 rfl rfl (by omega) (by omega)
  unfold r03_texts_fn r03_texts cmpS
  rw [show (0 : Int) = ((0 : Nat) : Int) from rfl, ho]
  simp only [List.drop_zero] at e
  rw [← e]
  cases o <;> simp
def F_r03_texts : FnC Un := fun args => match args with
  | [x0, x1] => (dStr x0).bind fun a => (dStr x1).bind fun b => some ([], A_r03_texts (r03_texts a b), O_r03_texts (r03_texts a b))
  | _ => none
theorem ok_r03_texts : FnOK 196 F_r03_texts := by
  intro args ob rs os h hob
  unfold F_r03_texts at h
  split at h
  · simp only [Option.bind_eq_some_iff, Option.some.injEq, Prod.mk.injEq] at h
    obtain ⟨a, e0, b, e1, rfl, rfl, rfl⟩ := h
    obtain rfl := dStr_eq e0
    obtain rfl := dStr_eq e1
    exact ⟨fn_contract (M := M_r03_texts) rfl (tbl_ok (l1 := [(180, F_r03_ints)]) (l2 := []) (l3 := []) (l4 := []) (l5 := []) ⟨ok_r03_ints, trivial⟩ trivial trivial trivial trivial) Tryz.func196 (by kernel_rfl) N_r03_texts 0 [.d] (fun hwf => r03_texts_run (r03_texts_spec a b (wfArg hwf (a := .d (.v (cs a))) (List.mem_of_getElem? (i := 0) rfl)) (wfArg hwf (a := .d (.v (cs b))) (List.mem_of_getElem? (i := 1) rfl)))), hasBody_of Tryz.func196 (by kernel_rfl) (by kernel_rfl)⟩
  · simp at h
def M_r03_Order : Mc Un := mach (tbl [(180, F_r03_ints), (196, F_r03_texts)]) (tbl []) (tbl []) (tbl []) (tbl [])
def N_r03_Order : Nat → NS := fun l => (look l []).getD ⟨[], [], [], [], []⟩
def A_r03_Order (r : Int) : List (A Un) := [.c (.s (.int .i64 r))]
def O_r03_Order (_r : Int) : List (Ob Un) := []
theorem r03_Order_in (a : Val) (b : Val) (K : List (A Un) → List (Ob Un) → Prop) :
    awp M_r03_Order N_r03_Order (bodyOf Tryz.f179) (entry Tryz.f179.ntmps 0 [.d (.agg (enc Ty.val a)), .d (.agg (enc Ty.val b))]) (retQ M_r03_Order Tryz.f179.results.toList [.d] K) =
(cnd (a.kind != b.kind)
 (K (A_r03_Order (r03_ints a.kind b.kind)) (O_r03_Order (r03_ints a.kind b.kind)))
 (cnd (a.n != b.n)
  (K (A_r03_Order (r03_ints a.n b.n)) (O_r03_Order (r03_ints a.n b.n)))
  (K (A_r03_Order (r03_texts a.s b.s)) (O_r03_Order (r03_texts a.s b.s))))) := by kernel_rfl
def r03_Order_fn (a : Val) (b : Val) : Option (Int) :=
  if (a.kind != b.kind) = true then
   some (r03_ints a.kind b.kind)
  else
   if (a.n != b.n) = true then
    some (r03_ints a.n b.n)
   else
    some (r03_texts a.s b.s)
theorem r03_Order_run {a : Val} {b : Val} {r : Int} (h : r03_Order_fn a b = some r) : Runs (awp M_r03_Order N_r03_Order (bodyOf Tryz.f179) (entry Tryz.f179.ntmps 0 [.d (.agg (enc Ty.val a)), .d (.agg (enc Ty.val b))]) (retQ M_r03_Order Tryz.f179.results.toList [.d] fun rs os => rs = A_r03_Order r ∧ os = O_r03_Order r)) := by
  constructor
  rw [r03_Order_in a b (fun rs os => rs = A_r03_Order r ∧ os = O_r03_Order r)]
  unfold r03_Order_fn at h
  rcases ite_some h with ⟨c1, h2⟩ | ⟨c1, h2⟩
  · cases h2
    exact (cnd_t c1 ⟨rfl, rfl⟩)
  · rcases ite_some h2 with ⟨c3, h4⟩ | ⟨c3, h4⟩
    · cases h4
      exact (cnd_f (bfalse c1) (cnd_t c3 ⟨rfl, rfl⟩))
    · cases h4
      exact (cnd_f (bfalse c1) (cnd_f (bfalse c3) ⟨rfl, rfl⟩))
def r03_Order (a b : Val) : Int := ordV a b
@[simp] theorem r03_Order_eq (a b : Val) : r03_Order a b = ordV a b := by unfold r03_Order; rfl
theorem r03_Order_spec (a b : Val) (_ha : WS .val a) (_hb : WS .val b) : r03_Order_fn a b = some (r03_Order a b) := by
  unfold r03_Order_fn r03_Order ordV
  simp only [bne_iff_ne, ne_eq, ite_not, r03_ints_spec, r03_texts_eq]
  split
  · split <;> rfl
  · rfl
def F_r03_Order : FnC Un := fun args => match args with
  | [x0, x1] => (dS .val x0).bind fun a => (dS .val x1).bind fun b => some ([], A_r03_Order (r03_Order a b), O_r03_Order (r03_Order a b))
  | _ => none
theorem ok_r03_Order : FnOK 179 F_r03_Order := by
  intro args ob rs os h hob
  unfold F_r03_Order at h
  split at h
  · simp only [Option.bind_eq_some_iff, Option.some.injEq, Prod.mk.injEq] at h
    obtain ⟨a, e0, b, e1, rfl, rfl, rfl⟩ := h
    obtain rfl := dS_eq e0
    obtain rfl := dS_eq e1
    exact ⟨fn_contract (M := M_r03_Order) rfl (tbl_ok (l1 := [(180, F_r03_ints), (196, F_r03_texts)]) (l2 := []) (l3 := []) (l4 := []) (l5 := []) ⟨ok_r03_ints, ok_r03_texts, trivial⟩ trivial trivial trivial trivial) Tryz.func179 (by kernel_rfl) N_r03_Order 0 [.d] (fun hwf => r03_Order_run (r03_Order_spec a b (wfArg hwf (a := .d (.agg (enc Ty.val a))) (List.mem_of_getElem? (i := 0) rfl)) (wfArg hwf (a := .d (.agg (enc Ty.val b))) (List.mem_of_getElem? (i := 1) rfl)))), hasBody_of Tryz.func179 (by kernel_rfl) (by kernel_rfl)⟩
  · simp at h
def M_r03_Orders : Mc Un := mach (tbl [(179, F_r03_Order), (180, F_r03_ints)]) (tbl []) (tbl []) (tbl []) (tbl [])
def N_r03_Orders : Nat → NS := fun l => (look l [(2, { ts := [true, true, false, false, true, true, false, false, false, false, false, false, false, false, false, false, false, false, false, false, false, false, false, false, false, false, false, false, false, false, false, false, false, false, false, false, false, false, false, false, false, false], bs := [false, false, false, false, false, false, false, false, false, false, false, false, false, false, false, false, false, false, false, false, false, false, false, false, false, false, false, false, false, false, false, false, false, false, false, false, false, false, false, false, false, false], nm := [], gb := [], gs := [] })]).getD ⟨[], [], [], [], []⟩
def A_r03_Orders (r : Int) : List (A Un) := [.c (.s (.int .i64 r))]
def O_r03_Orders (_r : Int) : List (Ob Un) := []
def r03_Orders_s2 (a : List Val) (b : List Val) (v0 : Int) : S Un := (st 42 42 168 0 [(0, AV.one (A.c (C.sl Ty.val a false))), (1, AV.one (A.c (C.sl Ty.val b false))), (4, AV.one (A.c (C.s (Value.int IntKind.i64 (0 : Int))))), (5, AV.one (A.c (C.s (Value.int IntKind.i64 v0))))] [] [])
def r03_Orders_e2_ret (a : List Val) (b : List Val) (v0 : Int) (v1 : Int) : S Un := (st 42 42 168 0 [(0, AV.one (A.c (C.sl Ty.val a false))), (1, AV.one (A.c (C.sl Ty.val b false))), (4, AV.one (A.c (C.s (Value.int IntKind.i64 v1)))), (5, AV.one (A.c (C.s (Value.int IntKind.i64 v0))))] [] [])
theorem r03_Orders_in (a : List Val) (b : List Val) (K : List (A Un) → List (Ob Un) → Prop) :
    awp M_r03_Orders N_r03_Orders (bodyOf Tryz.f138) (entry Tryz.f138.ntmps 0 [.d (.v (.dat (U := Un) Ty.val a)), .d (.v (.dat (U := Un) Ty.val b))]) (retQ M_r03_Orders Tryz.f138.results.toList [.d] K) =
(itersK (N_r03_Orders 2) (awp M_r03_Orders N_r03_Orders (sub (bodyOf Tryz.f138) [1, 0, 1, 2, 2])) (ctxK M_r03_Orders N_r03_Orders (bodyOf Tryz.f138) [1, 0, 1, 2] (retQ M_r03_Orders Tryz.f138.results.toList [.d] K)) (r03_Orders_s2 a b (0 : Int))) := by kernel_rfl
theorem r03_Orders_l2 (a : List Val) (b : List Val) (v0 : Int) (k : Nat) (Q : Exit → S Un → Prop) :
    iterK (N_r03_Orders 2) (awp M_r03_Orders N_r03_Orders (sub (bodyOf Tryz.f138) [1, 0, 1, 2, 2])) Q (k + 1) (r03_Orders_s2 a b v0) =
(cnd (decide (v0 < (↑a.length : Int)))
 (cnd (decide (v0 < (↑b.length : Int)))
  (((0 : Int) ≤ v0 ∧ v0 < (↑a.length : Int)) ∧
  (((0 : Int) ≤ v0 ∧ v0 < (↑b.length : Int)) ∧
  (cnd (r03_Order (a.getD v0.toNat zeroVal) (b.getD v0.toNat zeroVal) != (0 : Int))
   (((0 : Int) ≤ v0 ∧ v0 < (↑a.length : Int)) ∧
   (((0 : Int) ≤ v0 ∧ v0 < (↑b.length : Int)) ∧
   (Q .ret (r03_Orders_e2_ret a b v0 (r03_Order (a.getD v0.toNat zeroVal) (b.getD v0.toNat zeroVal))))))
   (iterK (N_r03_Orders 2) (awp M_r03_Orders N_r03_Orders (sub (bodyOf Tryz.f138) [1, 0, 1, 2, 2])) Q k (r03_Orders_s2 a b (IntKind.i64.wrap (v0 + (1 : Int))))))))
  (Q (.exit 0) (r03_Orders_s2 a b v0)))
 (Q (.exit 0) (r03_Orders_s2 a b v0))) := by kernel_rfl
theorem r03_Orders_a2_ret (a : List Val) (b : List Val) (v0 : Int) (v1 : Int) (K : List (A Un) → List (Ob Un) → Prop) :
    ctxK M_r03_Orders N_r03_Orders (bodyOf Tryz.f138) [1, 0, 1, 2] (retQ M_r03_Orders Tryz.f138.results.toList [.d] K) .ret (r03_Orders_e2_ret a b v0 v1) =
(K (A_r03_Orders (v1)) (O_r03_Orders (v1))) := by kernel_rfl
theorem r03_Orders_a2_x0 (a : List Val) (b : List Val) (v0 : Int) (K : List (A Un) → List (Ob Un) → Prop) :
    ctxK M_r03_Orders N_r03_Orders (bodyOf Tryz.f138) [1, 0, 1, 2] (retQ M_r03_Orders Tryz.f138.results.toList [.d] K) (.exit 0) (r03_Orders_s2 a b v0) =
(K (A_r03_Orders (r03_ints (↑a.length : Int) (↑b.length : Int))) (O_r03_Orders (r03_ints (↑a.length : Int) (↑b.length : Int)))) := by kernel_rfl
def r03_Orders_S2 (a : List Val) (b : List Val) (v : Int) : Option ((Int) ⊕ ((Int × Int) ⊕ (Int))) :=
  if (decide (v < (↑a.length : Int))) = true then
   if (decide (v < (↑b.length : Int))) = true then
    if (0 : Int) ≤ v ∧ v < (↑a.length : Int) then
     if (0 : Int) ≤ v ∧ v < (↑b.length : Int) then
      if (r03_Order (a.getD v.toNat zeroVal) (b.getD v.toNat zeroVal) != (0 : Int)) = true then
       if (0 : Int) ≤ v ∧ v < (↑a.length : Int) then
        if (0 : Int) ≤ v ∧ v < (↑b.length : Int) then
         some (.inr (.inl (v, (r03_Order (a.getD v.toNat zeroVal) (b.getD v.toNat zeroVal)))))
        else none
       else none
      else
       some (.inl (IntKind.i64.wrap (v + (1 : Int))))
     else none
    else none
   else
    some (.inr (.inr v))
  else
   some (.inr (.inr v))
def r03_Orders_L2 (a : List Val) (b : List Val) (v : Int) : Option ((Int × Int) ⊕ (Int)) := loopO (r03_Orders_S2 a b) v
theorem r03_Orders_L2_eq (a : List Val) (b : List Val) (v : Int) : r03_Orders_L2 a b v = stepB (r03_Orders_L2 a b) (r03_Orders_S2 a b v) := loopO_eq _ _
def r03_Orders_Q2 (a : List Val) (b : List Val) (r : (Int × Int) ⊕ (Int)) (Q : Exit → S Un → Prop) : Prop := match r with | .inl x => Q .ret (r03_Orders_e2_ret a b x.1 x.2) | .inr x => Q (.exit 0) (r03_Orders_s2 a b x)
theorem r03_Orders_Q2_ret {a : List Val} {b : List Val} {x : Int × Int} {Q : Exit → S Un → Prop} (h : Q .ret (r03_Orders_e2_ret a b x.1 x.2)) : r03_Orders_Q2 a b (.inl x) Q := h
theorem r03_Orders_Q2_x0 {a : List Val} {b : List Val} {x : Int} {Q : Exit → S Un → Prop} (h : Q (.exit 0) (r03_Orders_s2 a b x)) : r03_Orders_Q2 a b (.inr x) Q := h
theorem r03_Orders_L2_run {a : List Val} {b : List Val} {v : Int} {r : (Int × Int) ⊕ (Int)} (h : r03_Orders_L2 a b v = some r) (Q : Exit → S Un → Prop) (hQ : r03_Orders_Q2 a b r Q) : itersK (N_r03_Orders 2) (awp M_r03_Orders N_r03_Orders (sub (bodyOf Tryz.f138) [1, 0, 1, 2, 2])) Q (r03_Orders_s2 a b v) := by
  refine @loop_run _ _ (r03_Orders_S2 a b) (fun v => itersK (N_r03_Orders 2) (awp M_r03_Orders N_r03_Orders (sub (bodyOf Tryz.f138) [1, 0, 1, 2, 2])) Q (r03_Orders_s2 a b v)) (fun r => r03_Orders_Q2 a b r Q) ?_ v r h hQ
  intro v o h hI
  unfold r03_Orders_S2 at h
  rcases ite_some h with ⟨c1, h2⟩ | ⟨c1, h2⟩
  · rcases ite_some h2 with ⟨c3, h4⟩ | ⟨c3, h4⟩
    · obtain ⟨c5, h6⟩ := ob_some h4
      obtain ⟨c7, h8⟩ := ob_some h6
      rcases ite_some h8 with ⟨c9, h10⟩ | ⟨c9, h10⟩
      · obtain ⟨c11, h12⟩ := ob_some h10
        obtain ⟨c13, h14⟩ := ob_some h12
        cases h14
        exact itersK_mk 1 (mpr (r03_Orders_l2 a b v 0 Q) (cnd_t c1 (cnd_t c3 (And.intro c5 (And.intro c7 (cnd_t c9 (And.intro c11 (And.intro c13 hI))))))))
      · cases h10
        obtain ⟨k15, hk16⟩ := itersK_get hI
        exact itersK_mk (k15 + 1) (mpr (r03_Orders_l2 a b v k15 Q) (cnd_t c1 (cnd_t c3 (And.intro c5 (And.intro c7 (cnd_f (bfalse c9) hk16))))))
    · cases h4
      exact itersK_mk 1 (mpr (r03_Orders_l2 a b v 0 Q) (cnd_t c1 (cnd_f (bfalse c3) hI)))
  · cases h2
    exact itersK_mk 1 (mpr (r03_Orders_l2 a b v 0 Q) (cnd_f (bfalse c1) hI))
def r03_Orders_fn (a : List Val) (b : List Val) : Option (Int) :=
  (r03_Orders_L2 a b (0 : Int)) >>= fun o17 => match o17 with
   | .inl o18 =>
     some (o18.2)
   | .inr o19 =>
     some (r03_ints (↑a.length : Int) (↑b.length : Int))
theorem r03_Orders_run {a : List Val} {b : List Val} {r : Int} (h : r03_Orders_fn a b = some r) : Runs (awp M_r03_Orders N_r03_Orders (bodyOf Tryz.f138) (entry Tryz.f138.ntmps 0 [.d (.v (.dat (U := Un) Ty.val a)), .d (.v (.dat (U := Un) Ty.val b))]) (retQ M_r03_Orders Tryz.f138.results.toList [.d] fun rs os => rs = A_r03_Orders r ∧ os = O_r03_Orders r)) := by
  constructor
  rw [r03_Orders_in a b (fun rs os => rs = A_r03_Orders r ∧ os = O_r03_Orders r)]
  unfold r03_Orders_fn at h
  obtain ⟨o20, ho21, h22⟩ := bind_some h
  rcases o20 with o23 | o24
  · cases h22
    exact (r03_Orders_L2_run ho21 _ (r03_Orders_Q2_ret (mpr (r03_Orders_a2_ret a b o23.1 o23.2 _) ⟨rfl, rfl⟩)))
  · cases h22
    exact (r03_Orders_L2_run ho21 _ (r03_Orders_Q2_x0 (mpr (r03_Orders_a2_x0 a b o24 _) ⟨rfl, rfl⟩)))
def r03_Orders (a b : List Val) : Int := ordR a b
@[simp] theorem r03_Orders_eq (a b : List Val) : r03_Orders a b = ordR a b := by unfold r03_Orders; rfl
theorem r03_Orders_loop (a b : List Val) (ha : WL .val a) (hb : WL .val b) : ∀ (ra rb : List Val) (i : Nat), a.drop i = ra → b.drop i = rb → i ≤ a.length → i ≤ b.length →
    ∃ o, r03_Orders_L2 a b i = some o ∧ (match o with | .inl o => o.2 | .inr _ => cmpI a.length b.length) = ordR ra rb := by
  intro ra
  induction ra with
  | nil =>
    intro rb i h1 h2 h3 h4
    have e1 := drop_len h1; have e2 := drop_len h2
    simp only [List.length_nil] at e1
    have hn : ¬ ((i : Int) < a.length) := by omega
    refine ⟨.inr i, by rw [r03_Orders_L2_eq, r03_Orders_S2]; simp [hn], ?_⟩
    simp only
    cases rb with
    | nil => simp at e2; unfold cmpI ordR; rw [if_neg (by omega), if_neg (by omega)]
    | cons y rb => simp at e2; unfold cmpI ordR; rw [if_pos (by omega)]
  | cons x ra ih =>
    intro rb i h1 h2 h3 h4
    obtain ⟨a1, a2, a3, _⟩ := drop_cons h1
    have hp : (i : Int) < a.length := by omega
    cases rb with
    | nil =>
      have e2 := drop_len h2
      simp only [List.length_nil] at e2
      have hn : ¬ ((i : Int) < b.length) := by omega
      refine ⟨.inr i, by rw [r03_Orders_L2_eq, r03_Orders_S2]; simp [hn, hp], ?_⟩
      simp only; unfold cmpI ordR; rw [if_neg (by omega), if_pos (by omega)]
    | cons y rb =>
      obtain ⟨b1, b2, b3, _⟩ := drop_cons h2
      have hq : (i : Int) < b.length := by omega
      have hi : (0 : Int) ≤ i := by omega
      rw [r03_Orders_L2_eq, r03_Orders_S2]
      simp only [hp, hq, hi, decide_true, if_true, true_and, and_self, Int.toNat_natCast, a2, b2, bne_iff_ne, ne_eq, ite_not, r03_Order_eq]
      by_cases hxy : ordV x y = 0
      · rw [if_pos hxy, wrap_succ a1 ha.len]
        simpa only [ordR, hxy, if_true, stepB_inl] using ih rb (i + 1) a3 b3 (by omega) (by omega)
      · exact ⟨_, by rw [if_neg hxy, stepB_inr], by simp only [ordR, hxy, if_false]⟩
theorem r03_Orders_spec (a b : List Val) (ha : WL .val a) (hb : WL .val b) : r03_Orders_fn a b = some (r03_Orders a b) := by
  obtain ⟨o, ho, e⟩ := r03_Orders_loop a b ha hb _ _ 0 rfl rfl (by omega) (by omega)
  unfold r03_Orders_fn r03_Orders
  rw [show (0 : Int) = ((0 : Nat) : Int) from rfl, ho]
  simp only [List.drop_zero] at e
  rw [← e]
  cases o <;> simp
def F_r03_Orders : FnC Un := fun args => match args with
  | [x0, x1] => (dL .val x0).bind fun a => (dL .val x1).bind fun b => some ([], A_r03_Orders (r03_Orders a b), O_r03_Orders (r03_Orders a b))
  | _ => none
theorem ok_r03_Orders : FnOK 138 F_r03_Orders := by
  intro args ob rs os h hob
  unfold F_r03_Orders at h
  split at h
  · simp only [Option.bind_eq_some_iff, Option.some.injEq, Prod.mk.injEq] at h
    obtain ⟨a, e0, b, e1, rfl, rfl, rfl⟩ := h
    obtain rfl := dL_eq e0
    obtain rfl := dL_eq e1
    exact ⟨fn_contract (M := M_r03_Orders) rfl (tbl_ok (l1 := [(179, F_r03_Order), (180, F_r03_ints)]) (l2 := []) (l3 := []) (l4 := []) (l5 := []) ⟨ok_r03_Order, ok_r03_ints, trivial⟩ trivial trivial trivial trivial) Tryz.func138 (by kernel_rfl) N_r03_Orders 0 [.d] (fun hwf => r03_Orders_run (r03_Orders_spec a b (wfArg hwf (a := .d (.v (.dat (U := Un) Ty.val a))) (List.mem_of_getElem? (i := 0) rfl)) (wfArg hwf (a := .d (.v (.dat (U := Un) Ty.val b))) (List.mem_of_getElem? (i := 1) rfl)))), hasBody_of Tryz.func138 (by kernel_rfl) (by kernel_rfl)⟩
  · simp at h
end
end Go.Proofs.YtmpnompddfhkeaaGreat.B
