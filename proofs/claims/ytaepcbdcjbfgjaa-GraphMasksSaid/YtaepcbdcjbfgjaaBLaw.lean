/- Data types read out of cells; the layouts of the program's types; a law's arguments; a law's end. (Printed by wip/tools/gen_law.py.) -/
import Derived.Test.YtaepcbdcjbfgjaaBLaw0
namespace Go.Proofs.Ytaepcbdcjbfgjaa.B
open Go Go.RowKit Go.ChangeShapes
set_option maxRecDepth 1000000

theorem tot_int {vs : List (V Un)} (h : vs.map flOf = (fls .int).map some) : ∃ x, dec .int vs = some x := by
  have h0 : vs.map flOf = ([.int] : List Fl).map some := h
  clear h
  obtain ⟨a0, r0, rfl, h1⟩ := fl_int h0; clear h0
  obtain rfl := fl_nil h1
  exact ⟨_, rfl⟩
theorem tot_str {vs : List (V Un)} (h : vs.map flOf = (fls .str).map some) : ∃ x, dec .str vs = some x := by
  have h0 : vs.map flOf = ([.str] : List Fl).map some := h
  clear h
  obtain ⟨a0, r0, rfl, h1⟩ := fl_str h0; clear h0
  obtain rfl := fl_nil h1
  exact ⟨_, rfl⟩
theorem tot_row {vs : List (V Un)} (h : vs.map flOf = (fls .row).map some) : ∃ x, dec .row vs = some x := by
  have h0 : vs.map flOf = ([.sl .val] : List Fl).map some := h
  clear h
  obtain ⟨a0, r0, rfl, h1⟩ := fl_sl h0; clear h0
  obtain rfl := fl_nil h1
  exact ⟨_, rfl⟩
theorem tot_ints {vs : List (V Un)} (h : vs.map flOf = (fls .ints).map some) : ∃ x, dec .ints vs = some x := by
  have h0 : vs.map flOf = ([.sl .int] : List Fl).map some := h
  clear h
  obtain ⟨a0, r0, rfl, h1⟩ := fl_sl h0; clear h0
  obtain rfl := fl_nil h1
  exact ⟨_, rfl⟩
theorem tot_pair {vs : List (V Un)} (h : vs.map flOf = (fls .pair).map some) : ∃ x, dec .pair vs = some x := by
  have h0 : vs.map flOf = ([.int, .int] : List Fl).map some := h
  clear h
  obtain ⟨a0, r0, rfl, h1⟩ := fl_int h0; clear h0
  obtain ⟨a1, r1, rfl, h2⟩ := fl_int h1; clear h1
  obtain rfl := fl_nil h2
  exact ⟨_, rfl⟩
theorem tot_val {vs : List (V Un)} (h : vs.map flOf = (fls .val).map some) : ∃ x, dec .val vs = some x := by
  have h0 : vs.map flOf = ([.int, .int, .str] : List Fl).map some := h
  clear h
  obtain ⟨a0, r0, rfl, h1⟩ := fl_int h0; clear h0
  obtain ⟨a1, r1, rfl, h2⟩ := fl_int h1; clear h1
  obtain ⟨a2, r2, rfl, h3⟩ := fl_str h2; clear h2
  obtain rfl := fl_nil h3
  exact ⟨_, rfl⟩
theorem tot_col {vs : List (V Un)} (h : vs.map flOf = (fls .col).map some) : ∃ x, dec .col vs = some x := by
  have h0 : vs.map flOf = ([.str, .str, .int] : List Fl).map some := h
  clear h
  obtain ⟨a0, r0, rfl, h1⟩ := fl_str h0; clear h0
  obtain ⟨a1, r1, rfl, h2⟩ := fl_str h1; clear h1
  obtain ⟨a2, r2, rfl, h3⟩ := fl_int h2; clear h2
  obtain rfl := fl_nil h3
  exact ⟨_, rfl⟩
theorem tot_by_ {vs : List (V Un)} (h : vs.map flOf = (fls .by_).map some) : ∃ x, dec .by_ vs = some x := by
  have h0 : vs.map flOf = ([.int, .bool] : List Fl).map some := h
  clear h
  obtain ⟨a0, r0, rfl, h1⟩ := fl_int h0; clear h0
  obtain ⟨a1, r1, rfl, h2⟩ := fl_bool h1; clear h1
  obtain rfl := fl_nil h2
  exact ⟨_, rfl⟩
theorem tot_bound {vs : List (V Un)} (h : vs.map flOf = (fls .bound).map some) : ∃ x, dec .bound vs = some x := by
  have h0 : vs.map flOf = ([.bool, .bool, .sl .val] : List Fl).map some := h
  clear h
  obtain ⟨a0, r0, rfl, h1⟩ := fl_bool h0; clear h0
  obtain ⟨a1, r1, rfl, h2⟩ := fl_bool h1; clear h1
  obtain ⟨a2, r2, rfl, h3⟩ := fl_sl h2; clear h2
  obtain rfl := fl_nil h3
  exact ⟨_, rfl⟩
theorem tot_often {vs : List (V Un)} (h : vs.map flOf = (fls .often).map some) : ∃ x, dec .often vs = some x := by
  have h0 : vs.map flOf = ([.int, .int, .str, .int] : List Fl).map some := h
  clear h
  obtain ⟨a0, r0, rfl, h1⟩ := fl_int h0; clear h0
  obtain ⟨a1, r1, rfl, h2⟩ := fl_int h1; clear h1
  obtain ⟨a2, r2, rfl, h3⟩ := fl_str h2; clear h2
  obtain ⟨a3, r3, rfl, h4⟩ := fl_int h3; clear h3
  obtain rfl := fl_nil h4
  exact ⟨_, rfl⟩
theorem tot_colStat {vs : List (V Un)} (h : vs.map flOf = (fls .colStat).map some) : ∃ x, dec .colStat vs = some x := by
  have h0 : vs.map flOf = ([.int, .int, .sl .val, .sl .often] : List Fl).map some := h
  clear h
  obtain ⟨a0, r0, rfl, h1⟩ := fl_int h0; clear h0
  obtain ⟨a1, r1, rfl, h2⟩ := fl_int h1; clear h1
  obtain ⟨a2, r2, rfl, h3⟩ := fl_sl h2; clear h2
  obtain ⟨a3, r3, rfl, h4⟩ := fl_sl h3; clear h3
  obtain rfl := fl_nil h4
  exact ⟨_, rfl⟩
theorem tot_data {vs : List (V Un)} (h : vs.map flOf = (fls .data).map some) : ∃ x, dec .data vs = some x := by
  have h0 : vs.map flOf = ([.str, .sl .row] : List Fl).map some := h
  clear h
  obtain ⟨a0, r0, rfl, h1⟩ := fl_str h0; clear h0
  obtain ⟨a1, r1, rfl, h2⟩ := fl_sl h1; clear h1
  obtain rfl := fl_nil h2
  exact ⟨_, rfl⟩
theorem tot_acc {vs : List (V Un)} (h : vs.map flOf = (fls .acc).map some) : ∃ x, dec .acc vs = some x := by
  have h0 : vs.map flOf = ([.str, .bool, .int, .int, .int, .int, .int, .str, .sl .val] : List Fl).map some := h
  clear h
  obtain ⟨a0, r0, rfl, h1⟩ := fl_str h0; clear h0
  obtain ⟨a1, r1, rfl, h2⟩ := fl_bool h1; clear h1
  obtain ⟨a2, r2, rfl, h3⟩ := fl_int h2; clear h2
  obtain ⟨a3, r3, rfl, h4⟩ := fl_int h3; clear h3
  obtain ⟨a4, r4, rfl, h5⟩ := fl_int h4; clear h4
  obtain ⟨a5, r5, rfl, h6⟩ := fl_int h5; clear h5
  obtain ⟨a6, r6, rfl, h7⟩ := fl_int h6; clear h6
  obtain ⟨a7, r7, rfl, h8⟩ := fl_str h7; clear h7
  obtain ⟨a8, r8, rfl, h9⟩ := fl_sl h8; clear h8
  obtain rfl := fl_nil h9
  exact ⟨_, rfl⟩
theorem tot_stat {vs : List (V Un)} (h : vs.map flOf = (fls .stat).map some) : ∃ x, dec .stat vs = some x := by
  have h0 : vs.map flOf = ([.str, .int, .int, .sl .colStat] : List Fl).map some := h
  clear h
  obtain ⟨a0, r0, rfl, h1⟩ := fl_str h0; clear h0
  obtain ⟨a1, r1, rfl, h2⟩ := fl_int h1; clear h1
  obtain ⟨a2, r2, rfl, h3⟩ := fl_int h2; clear h2
  obtain ⟨a3, r3, rfl, h4⟩ := fl_sl h3; clear h3
  obtain rfl := fl_nil h4
  exact ⟨_, rfl⟩
theorem tot_column {vs : List (V Un)} (h : vs.map flOf = (fls .column).map some) : ∃ x, dec .column vs = some x := by
  have h0 : vs.map flOf = ([.int, .int, .sl .val, .sl .often, .int, .int, .int] : List Fl).map some := h
  clear h
  obtain ⟨a0, r0, rfl, h1⟩ := fl_int h0; clear h0
  obtain ⟨a1, r1, rfl, h2⟩ := fl_int h1; clear h1
  obtain ⟨a2, r2, rfl, h3⟩ := fl_sl h2; clear h2
  obtain ⟨a3, r3, rfl, h4⟩ := fl_sl h3; clear h3
  obtain ⟨a4, r4, rfl, h5⟩ := fl_int h4; clear h4
  obtain ⟨a5, r5, rfl, h6⟩ := fl_int h5; clear h5
  obtain ⟨a6, r6, rfl, h7⟩ := fl_int h6; clear h6
  obtain rfl := fl_nil h7
  exact ⟨_, rfl⟩
theorem tot_term {vs : List (V Un)} (h : vs.map flOf = (fls .term).map some) : ∃ x, dec .term vs = some x := by
  have h0 : vs.map flOf = ([.int, .int, .int, .str, .int, .int, .str, .sl .term, .sl .rel, .int] : List Fl).map some := h
  clear h
  obtain ⟨a0, r0, rfl, h1⟩ := fl_int h0; clear h0
  obtain ⟨a1, r1, rfl, h2⟩ := fl_int h1; clear h1
  obtain ⟨a2, r2, rfl, h3⟩ := fl_int h2; clear h2
  obtain ⟨a3, r3, rfl, h4⟩ := fl_str h3; clear h3
  obtain ⟨a4, r4, rfl, h5⟩ := fl_int h4; clear h4
  obtain ⟨a5, r5, rfl, h6⟩ := fl_int h5; clear h5
  obtain ⟨a6, r6, rfl, h7⟩ := fl_str h6; clear h6
  obtain ⟨a7, r7, rfl, h8⟩ := fl_sl h7; clear h7
  obtain ⟨a8, r8, rfl, h9⟩ := fl_sl h8; clear h8
  obtain ⟨a9, r9, rfl, h10⟩ := fl_int h9; clear h9
  obtain rfl := fl_nil h10
  exact ⟨_, rfl⟩
theorem tot_agg {vs : List (V Un)} (h : vs.map flOf = (fls .agg).map some) : ∃ x, dec .agg vs = some x := by
  have h0 : vs.map flOf = ([.str, .bool, .sl .term] : List Fl).map some := h
  clear h
  obtain ⟨a0, r0, rfl, h1⟩ := fl_str h0; clear h0
  obtain ⟨a1, r1, rfl, h2⟩ := fl_bool h1; clear h1
  obtain ⟨a2, r2, rfl, h3⟩ := fl_sl h2; clear h2
  obtain rfl := fl_nil h3
  exact ⟨_, rfl⟩
theorem tot_rel {vs : List (V Un)} (h : vs.map flOf = (fls .rel).map some) : ∃ x, dec .rel vs = some x := by
  have h0 : vs.map flOf = ([.int, .str, .sl .col, .sl .rel, .sl .term, .sl .agg, .sl .by_, .int, .int, .bool, .sl .row] : List Fl).map some := h
  clear h
  obtain ⟨a0, r0, rfl, h1⟩ := fl_int h0; clear h0
  obtain ⟨a1, r1, rfl, h2⟩ := fl_str h1; clear h1
  obtain ⟨a2, r2, rfl, h3⟩ := fl_sl h2; clear h2
  obtain ⟨a3, r3, rfl, h4⟩ := fl_sl h3; clear h3
  obtain ⟨a4, r4, rfl, h5⟩ := fl_sl h4; clear h4
  obtain ⟨a5, r5, rfl, h6⟩ := fl_sl h5; clear h5
  obtain ⟨a6, r6, rfl, h7⟩ := fl_sl h6; clear h6
  obtain ⟨a7, r7, rfl, h8⟩ := fl_int h7; clear h7
  obtain ⟨a8, r8, rfl, h9⟩ := fl_int h8; clear h8
  obtain ⟨a9, r9, rfl, h10⟩ := fl_bool h9; clear h9
  obtain ⟨a10, r10, rfl, h11⟩ := fl_sl h10; clear h10
  obtain rfl := fl_nil h11
  exact ⟨_, rfl⟩
theorem tot_plan {vs : List (V Un)} (h : vs.map flOf = (fls .plan).map some) : ∃ x, dec .plan vs = some x := by
  have h0 : vs.map flOf = ([.int, .str, .str, .sl .col, .sl .plan, .sl .term, .sl .term, .sl .term, .sl .agg, .sl .by_, .sl .int, .bool, .bool, .sl .val, .bool, .bool, .sl .val, .int, .int, .bool, .sl .row, .int, .int] : List Fl).map some := h
  clear h
  obtain ⟨a0, r0, rfl, h1⟩ := fl_int h0; clear h0
  obtain ⟨a1, r1, rfl, h2⟩ := fl_str h1; clear h1
  obtain ⟨a2, r2, rfl, h3⟩ := fl_str h2; clear h2
  obtain ⟨a3, r3, rfl, h4⟩ := fl_sl h3; clear h3
  obtain ⟨a4, r4, rfl, h5⟩ := fl_sl h4; clear h4
  obtain ⟨a5, r5, rfl, h6⟩ := fl_sl h5; clear h5
  obtain ⟨a6, r6, rfl, h7⟩ := fl_sl h6; clear h6
  obtain ⟨a7, r7, rfl, h8⟩ := fl_sl h7; clear h7
  obtain ⟨a8, r8, rfl, h9⟩ := fl_sl h8; clear h8
  obtain ⟨a9, r9, rfl, h10⟩ := fl_sl h9; clear h9
  obtain ⟨a10, r10, rfl, h11⟩ := fl_sl h10; clear h10
  obtain ⟨a11, r11, rfl, h12⟩ := fl_bool h11; clear h11
  obtain ⟨a12, r12, rfl, h13⟩ := fl_bool h12; clear h12
  obtain ⟨a13, r13, rfl, h14⟩ := fl_sl h13; clear h13
  obtain ⟨a14, r14, rfl, h15⟩ := fl_bool h14; clear h14
  obtain ⟨a15, r15, rfl, h16⟩ := fl_bool h15; clear h15
  obtain ⟨a16, r16, rfl, h17⟩ := fl_sl h16; clear h16
  obtain ⟨a17, r17, rfl, h18⟩ := fl_int h17; clear h17
  obtain ⟨a18, r18, rfl, h19⟩ := fl_int h18; clear h18
  obtain ⟨a19, r19, rfl, h20⟩ := fl_bool h19; clear h19
  obtain ⟨a20, r20, rfl, h21⟩ := fl_sl h20; clear h20
  obtain ⟨a21, r21, rfl, h22⟩ := fl_int h21; clear h21
  obtain ⟨a22, r22, rfl, h23⟩ := fl_int h22; clear h22
  obtain rfl := fl_nil h23
  exact ⟨_, rfl⟩
theorem tot_span {vs : List (V Un)} (h : vs.map flOf = (fls .span).map some) : ∃ x, dec .span vs = some x := by
  have h0 : vs.map flOf = ([.sl .val, .bool, .bool, .sl .val, .bool, .bool, .sl .val, .int, .sl .term] : List Fl).map some := h
  clear h
  obtain ⟨a0, r0, rfl, h1⟩ := fl_sl h0; clear h0
  obtain ⟨a1, r1, rfl, h2⟩ := fl_bool h1; clear h1
  obtain ⟨a2, r2, rfl, h3⟩ := fl_bool h2; clear h2
  obtain ⟨a3, r3, rfl, h4⟩ := fl_sl h3; clear h3
  obtain ⟨a4, r4, rfl, h5⟩ := fl_bool h4; clear h4
  obtain ⟨a5, r5, rfl, h6⟩ := fl_bool h5; clear h5
  obtain ⟨a6, r6, rfl, h7⟩ := fl_sl h6; clear h6
  obtain ⟨a7, r7, rfl, h8⟩ := fl_int h7; clear h7
  obtain ⟨a8, r8, rfl, h9⟩ := fl_sl h8; clear h8
  obtain rfl := fl_nil h9
  exact ⟨_, rfl⟩
theorem decTot : DecTot := by
  intro τ vs h
  cases τ with
  | int => exact tot_int h
  | str => exact tot_str h
  | row => exact tot_row h
  | ints => exact tot_ints h
  | pair => exact tot_pair h
  | val => exact tot_val h
  | col => exact tot_col h
  | by_ => exact tot_by_ h
  | bound => exact tot_bound h
  | often => exact tot_often h
  | colStat => exact tot_colStat h
  | data => exact tot_data h
  | acc => exact tot_acc h
  | stat => exact tot_stat h
  | column => exact tot_column h
  | term => exact tot_term h
  | agg => exact tot_agg h
  | rel => exact tot_rel h
  | plan => exact tot_plan h
  | span => exact tot_span h
theorem enc_fl : ∀ (τ : Ty) (x : Den τ), (B.enc τ x).map flOf = (fls τ).map some := by intro τ x; cases τ <;> rfl
theorem inj_val {x y : Val} (h : B.enc .val x = B.enc .val y) : x = y := by
  cases x; cases y
  simp only [B.enc, List.cons.injEq, V.s.injEq, V.dat.injEq, Value.int.injEq, Value.bool.injEq, Value.string.injEq, heq_eq_eq, true_and, and_true, ci, cb, cs] at h
  simp only [Val.mk.injEq]
  exact h
theorem inj_col {x y : Col} (h : B.enc .col x = B.enc .col y) : x = y := by
  cases x; cases y
  simp only [B.enc, List.cons.injEq, V.s.injEq, V.dat.injEq, Value.int.injEq, Value.bool.injEq, Value.string.injEq, heq_eq_eq, true_and, and_true, ci, cb, cs] at h
  simp only [Col.mk.injEq]
  exact h
theorem inj_by_ {x y : By} (h : B.enc .by_ x = B.enc .by_ y) : x = y := by
  cases x; cases y
  simp only [B.enc, List.cons.injEq, V.s.injEq, V.dat.injEq, Value.int.injEq, Value.bool.injEq, Value.string.injEq, heq_eq_eq, true_and, and_true, ci, cb, cs] at h
  simp only [By.mk.injEq]
  exact h
theorem inj_bound {x y : Bound} (h : B.enc .bound x = B.enc .bound y) : x = y := by
  cases x; cases y
  simp only [B.enc, List.cons.injEq, V.s.injEq, V.dat.injEq, Value.int.injEq, Value.bool.injEq, Value.string.injEq, heq_eq_eq, true_and, and_true, ci, cb, cs] at h
  simp only [Bound.mk.injEq]
  exact h
theorem inj_often {x y : Often} (h : B.enc .often x = B.enc .often y) : x = y := by
  cases x; cases y
  simp only [B.enc, List.cons.injEq, V.s.injEq, V.dat.injEq, Value.int.injEq, Value.bool.injEq, Value.string.injEq, heq_eq_eq, true_and, and_true, ci, cb, cs] at h
  simp only [Often.mk.injEq]
  obtain ⟨e0, e1, e2, e3⟩ := h
  exact ⟨inj_val (by simp only [B.enc, ci, cb, cs]; simp only [e0, e1, e2]), e3⟩
theorem inj_colStat {x y : ColStat} (h : B.enc .colStat x = B.enc .colStat y) : x = y := by
  cases x; cases y
  simp only [B.enc, List.cons.injEq, V.s.injEq, V.dat.injEq, Value.int.injEq, Value.bool.injEq, Value.string.injEq, heq_eq_eq, true_and, and_true, ci, cb, cs] at h
  simp only [ColStat.mk.injEq]
  exact h
theorem inj_data {x y : Data} (h : B.enc .data x = B.enc .data y) : x = y := by
  cases x; cases y
  simp only [B.enc, List.cons.injEq, V.s.injEq, V.dat.injEq, Value.int.injEq, Value.bool.injEq, Value.string.injEq, heq_eq_eq, true_and, and_true, ci, cb, cs] at h
  simp only [Data.mk.injEq]
  exact h
theorem inj_acc {x y : Acc} (h : B.enc .acc x = B.enc .acc y) : x = y := by
  cases x; cases y
  simp only [B.enc, List.cons.injEq, V.s.injEq, V.dat.injEq, Value.int.injEq, Value.bool.injEq, Value.string.injEq, heq_eq_eq, true_and, and_true, ci, cb, cs] at h
  simp only [Acc.mk.injEq]
  obtain ⟨e0, e1, e2, e3, e4, e5, e6, e7, e8⟩ := h
  exact ⟨e0, e1, e2, e3, e4, inj_val (by simp only [B.enc, ci, cb, cs]; simp only [e5, e6, e7]), e8⟩
theorem inj_stat {x y : Stat} (h : B.enc .stat x = B.enc .stat y) : x = y := by
  cases x; cases y
  simp only [B.enc, List.cons.injEq, V.s.injEq, V.dat.injEq, Value.int.injEq, Value.bool.injEq, Value.string.injEq, heq_eq_eq, true_and, and_true, ci, cb, cs] at h
  simp only [Stat.mk.injEq]
  exact h
theorem inj_column {x y : Column} (h : B.enc .column x = B.enc .column y) : x = y := by
  cases x; cases y
  simp only [B.enc, List.cons.injEq, V.s.injEq, V.dat.injEq, Value.int.injEq, Value.bool.injEq, Value.string.injEq, heq_eq_eq, true_and, and_true, ci, cb, cs] at h
  simp only [Column.mk.injEq]
  obtain ⟨e0, e1, e2, e3, e4, e5, e6⟩ := h
  exact ⟨inj_colStat (by simp only [B.enc, ci, cb, cs]; simp only [e0, e1, e2, e3]), e4, e5, e6⟩
theorem inj_term {x y : Term} (h : B.enc .term x = B.enc .term y) : x = y := by
  cases x; cases y
  simp only [B.enc, Term.op_mk, Term.v_mk, Term.depth_mk, Term.at__mk, Term.name_mk, Term.kids_mk, Term.sub_mk, Term.type_mk, List.cons.injEq, V.s.injEq, V.dat.injEq, Value.int.injEq, Value.bool.injEq, Value.string.injEq, heq_eq_eq, true_and, and_true, ci, cb, cs] at h
  simp only [Term.mk.injEq]
  obtain ⟨e0, e1, e2, e3, e4, e5, e6, e7, e8, e9⟩ := h
  exact ⟨e0, inj_val (by simp only [B.enc, ci, cb, cs]; simp only [e1, e2, e3]), e4, e5, e6, e7, e8, e9⟩
theorem inj_agg {x y : Agg} (h : B.enc .agg x = B.enc .agg y) : x = y := by
  cases x; cases y
  simp only [B.enc, Agg.name_mk, Agg.distinct_mk, Agg.t_mk, List.cons.injEq, V.s.injEq, V.dat.injEq, Value.int.injEq, Value.bool.injEq, Value.string.injEq, heq_eq_eq, true_and, and_true, ci, cb, cs] at h
  simp only [Agg.mk.injEq]
  exact h
theorem inj_rel {x y : Rel} (h : B.enc .rel x = B.enc .rel y) : x = y := by
  cases x; cases y
  simp only [B.enc, Rel.op_mk, Rel.table_mk, Rel.cols_mk, Rel.kids_mk, Rel.terms_mk, Rel.aggs_mk, Rel.keys_mk, Rel.limit_mk, Rel.skip_mk, Rel.all_mk, Rel.rows_mk, List.cons.injEq, V.s.injEq, V.dat.injEq, Value.int.injEq, Value.bool.injEq, Value.string.injEq, heq_eq_eq, true_and, and_true, ci, cb, cs] at h
  simp only [Rel.mk.injEq]
  exact h
theorem inj_plan {x y : Plan} (h : B.enc .plan x = B.enc .plan y) : x = y := by
  cases x; cases y
  simp only [B.enc, Plan.op_mk, Plan.table_mk, Plan.index_mk, Plan.cols_mk, Plan.kids_mk, Plan.terms_mk, Plan.lkeys_mk, Plan.rkeys_mk, Plan.aggs_mk, Plan.keys_mk, Plan.out_mk, Plan.lo_mk, Plan.hi_mk, Plan.limit_mk, Plan.skip_mk, Plan.all_mk, Plan.rows_mk, Plan.est_mk, Plan.cost_mk, List.cons.injEq, V.s.injEq, V.dat.injEq, Value.int.injEq, Value.bool.injEq, Value.string.injEq, heq_eq_eq, true_and, and_true, ci, cb, cs] at h
  simp only [Plan.mk.injEq]
  obtain ⟨e0, e1, e2, e3, e4, e5, e6, e7, e8, e9, e10, e11, e12, e13, e14, e15, e16, e17, e18, e19, e20, e21, e22⟩ := h
  exact ⟨e0, e1, e2, e3, e4, e5, e6, e7, e8, e9, e10, inj_bound (by simp only [B.enc, ci, cb, cs]; simp only [e11, e12, e13]), inj_bound (by simp only [B.enc, ci, cb, cs]; simp only [e14, e15, e16]), e17, e18, e19, e20, e21, e22⟩
theorem inj_span {x y : Span} (h : B.enc .span x = B.enc .span y) : x = y := by
  cases x; cases y
  simp only [B.enc, List.cons.injEq, V.s.injEq, V.dat.injEq, Value.int.injEq, Value.bool.injEq, Value.string.injEq, heq_eq_eq, true_and, and_true, ci, cb, cs] at h
  simp only [Span.mk.injEq]
  obtain ⟨e0, e1, e2, e3, e4, e5, e6, e7, e8⟩ := h
  exact ⟨e0, inj_bound (by simp only [B.enc, ci, cb, cs]; simp only [e1, e2, e3]), inj_bound (by simp only [B.enc, ci, cb, cs]; simp only [e4, e5, e6]), e7, e8⟩
theorem enc_inj : ∀ {τ : Ty} {x y : Den τ}, B.enc τ x = B.enc τ y → x = y := by
  intro τ x y h
  cases τ with
  | int => simp [B.enc, ci, cs] at h; exact h
  | str => simp [B.enc, ci, cs] at h; exact h
  | row => simp [B.enc, ci, cs] at h; exact h
  | ints => simp [B.enc, ci, cs] at h; exact h
  | pair => obtain ⟨x1, x2⟩ := x; obtain ⟨y1, y2⟩ := y; simp [B.enc, ci] at h; simp [h]
  | val => exact inj_val h
  | col => exact inj_col h
  | by_ => exact inj_by_ h
  | bound => exact inj_bound h
  | often => exact inj_often h
  | colStat => exact inj_colStat h
  | data => exact inj_data h
  | acc => exact inj_acc h
  | stat => exact inj_stat h
  | column => exact inj_column h
  | term => exact inj_term h
  | agg => exact inj_agg h
  | rel => exact inj_rel h
  | plan => exact inj_plan h
  | span => exact inj_span h
theorem sz_pos : ∀ τ, 0 < sz τ := by intro τ; cases τ <;> decide
/-- Bytes of an element. -/
def byt : Ty → Nat
  | .int => 8
  | .str => 16
  | .row => 24
  | .ints => 24
  | .pair => 16
  | .val => 32
  | .col => 40
  | .by_ => 16
  | .bound => 32
  | .often => 40
  | .colStat => 64
  | .data => 40
  | .acc => 104
  | .stat => 56
  | .column => 88
  | .term => 128
  | .agg => 48
  | .rel => 192
  | .plan => 360
  | .span => 120

/-- What is known of a type, but for elements that are arrays. -/
def tl : Option (TI Un) → TI Un
  | some (.sl _ .pair _) => .oth
  | some x => x
  | none => .oth
theorem tl_sl {x : TI Un} {e : TypeId} {τ : Ty} {b : Nat} (h : tl (some x) = .sl e τ b) : x = .sl e τ b ∧ τ ≠ .pair := by
  cases x with
  | sl e' τ' b' =>
    cases τ' <;> simp [tl] at h <;> (obtain ⟨rfl, rfl, rfl⟩ := h; exact ⟨rfl, by simp⟩)
  | _ => simp [tl] at h
def tiL (t : TypeId) : TI Un := tl (look t tab)
noncomputable def lay1 : TI Un → Bool
  | .sl _ .pair _ => true
  | .sl e τ b => lay Try.prog tiL 8 e == some (fls τ) && Try.prog.cellsOf e == sz τ && Try.prog.bytesOf e == byt τ && b == byt τ
  | _ => true
theorem lay1_sl {e : TypeId} {τ : Ty} {b : Nat} (h : lay1 (.sl e τ b) = true) (hp : τ ≠ .pair)   : (lay Try.prog tiL 8 e = some (fls τ) ∧ Try.prog.cellsOf e = sz τ) ∧ Try.prog.bytesOf e = byt τ := by
  cases τ <;> first | exact absurd rfl hp | (simp only [lay1, Bool.and_eq_true, beq_iff_eq] at h; exact h.1)
noncomputable def layB : Bool := tab.all fun x => lay1 x.2
theorem layB_true : layB = true := by kernel_rfl
theorem layOf {t e : TypeId} {τ : Ty} {b : Nat} (h : tiL t = .sl e τ b) : (lay Try.prog tiL 8 e = some (fls τ) ∧ Try.prog.cellsOf e = sz τ) ∧ Try.prog.underlying t = some (.slice e) := by
  have hb := layB_true
  unfold layB at hb
  rw [List.all_eq_true] at hb
  unfold tiL at h
  cases hl : look t tab with
  | none => rw [hl] at h; simp [tl] at h
  | some x =>
    rw [hl] at h
    have hm := hb _ (look_mem hl)
    obtain ⟨rfl, hp⟩ := tl_sl h
    have ht := (tabOK (fun _ => none) (fun _ => none) (fun _ => none) (fun _ => none) (fun _ => none)).ti t
    have hti : (mach (fun _ => none) (fun _ => none) (fun _ => none) (fun _ => none) (fun _ => none)).ti t = .sl e τ b := by
      unfold Mc.ti mach; simp only [hl]
    rw [hti] at ht
    exact ⟨(lay1_sl hm hp).1, ht.2.1⟩
theorem bytOf {t e : TypeId} {τ : Ty} {b : Nat} (h : tiL t = .sl e τ b) : Try.prog.bytesOf e = byt τ := by
  have hb := layB_true
  unfold layB at hb
  rw [List.all_eq_true] at hb
  unfold tiL at h
  cases hl : look t tab with
  | none => rw [hl] at h; simp [tl] at h
  | some x =>
    rw [hl] at h
    have hm := hb _ (look_mem hl)
    obtain ⟨rfl, hp⟩ := tl_sl h
    exact (lay1_sl hm hp).2

section
variable {H : Type} {enc' : TypeId × Value → H} {w : World} {spare : Nat → Bool} {held : Bool} {base : Nat} {r : Reach} {b0 : Nat}
theorem trod_law {t : TypeId} {cs : List Value} {d : DataW H} {ps : List MemPlace} {k : Nat} {fl : List Fl} (h : ∃ n, DataW.trod enc' Try.prog w 0 spare held n t cs = some (d, ps)) (hl : lay Try.prog tiL k t = some fl) :
    ∃ vs, All2 (VRel En (StA w) w) cs vs ∧ vs.map flOf = fl.map some ∧ ((∀ q ∈ d.weights Try.prog t, q ≤ reachBytes) → ∀ v ∈ vs, VB byt v) := by
  obtain ⟨n, h⟩ := h
  exact trod_data (fun t e τ b ht => bytOf ht) (fun t e τ b ht => ⟨8, (layOf ht).1.1⟩) decTot sz_pos (fun t e τ b ht => (layOf ht).1.2) n t cs _ k fl h hl
theorem arg_sl {t e : TypeId} {τ : Ty} {b : Nat} (ht : tiL t = .sl e τ b) {v : Value} {d : DataW H} {ps : List MemPlace} (hval : Value.okWide Try.prog w r b0 t v) (hd : DataW.Trod enc' Try.prog w 0 spare held t v d ps) :
    ∃ l : List (Den τ), DRel Try.prog En (StA w) w v (.d (.v (.dat (U := Un) τ l))) ∧ ((∀ q ∈ d.weights Try.prog t, q ≤ reachBytes) → VB byt (.dat (U := Un) τ l)) := by
  have hu := (layOf ht).2
  obtain ⟨a, len, cap, rfl⟩ := Go.WideShapes.okWide_slice hu hval
  obtain ⟨vs, h1, h2, h4⟩ := trod_law (k := 1) (fl := [.sl τ]) hd (by simp only [lay, hu, ht, if_true])
  obtain ⟨l, rs, rfl, h3⟩ := fl_sl h2
  exact ⟨l, h1.1, fun hq => h4 hq _ List.mem_cons_self⟩
theorem arg_st {t : TypeId} (τ : Ty) {fs : Array Field} (hu : Try.prog.underlying t = some (.struct fs)) (hl : lay Try.prog tiL 8 t = some (fls τ)) {v : Value} {d : DataW H} {ps : List MemPlace} (hval : Value.okWide Try.prog w r b0 t v) (hd : DataW.Trod enc' Try.prog w 0 spare held t v d ps) :
    ∃ x : Den τ, DRel Try.prog En (StA w) w v (.d (.agg (B.enc τ x))) ∧ ((∀ q ∈ d.weights Try.prog t, q ≤ reachBytes) → ∀ c ∈ B.enc τ x, VB byt c) := by
  obtain ⟨cs, rfl, _⟩ := Go.WideShapes.okWide_struct hu hval
  obtain ⟨vs, h1, h2, h4⟩ := trod_law hd hl
  obtain ⟨x, hx⟩ := decTot τ vs h2
  refine ⟨x, ?_⟩
  rw [enc_back τ vs x hx]
  exact ⟨⟨cs, rfl, h1⟩, h4⟩
theorem arg_num {t : TypeId} {k : IntKind} (hu : Try.prog.underlying t = some (.int k)) {v : Value} {d : DataW H} {ps : List MemPlace} (hval : Value.okWide Try.prog w r b0 t v) (hd : DataW.Trod enc' Try.prog w 0 spare held t v d ps) :
    ∃ n : Int, DRel Try.prog En (StA w) w v (.d (.v (.s (.int k n)))) := by
  obtain ⟨n, rfl, -, -, hw⟩ := open_int hu hval hd
  exact ⟨n, .s _ (by simpa [Lit.wf, oneC] using hw)⟩
theorem arg_arr {t e : TypeId} {n : Nat} {fl : List Fl} (hu : Try.prog.underlying t = some (.array n e)) (hl : lay Try.prog tiL 8 t = some fl) {v : Value} {d : DataW H} {ps : List MemPlace} (hval : Value.okWide Try.prog w r b0 t v) (hd : DataW.Trod enc' Try.prog w 0 spare held t v d ps) :
    ∃ vs : List (V Un), DRel Try.prog En (StA w) w v (.d (.agg vs)) ∧ vs.map flOf = fl.map some ∧ ((∀ q ∈ d.weights Try.prog t, q ≤ reachBytes) → ∀ c ∈ vs, VB byt c) := by
  have hv := hval
  simp only [Value.okWide, hu] at hv
  obtain ⟨cs, rfl, hsz, _⟩ := hv
  obtain ⟨vs, h1, h2, h4⟩ := trod_law hd hl
  exact ⟨vs, ⟨cs, rfl, h1⟩, h2, h4⟩
theorem arg_int {t : TypeId} (hu : Try.prog.underlying t = some (.int .i64)) {v : Value} {d : DataW H} {ps : List MemPlace} (hval : Value.okWide Try.prog w r b0 t v) (hd : DataW.Trod enc' Try.prog w 0 spare held t v d ps) :
    ∃ n : Int, DRel Try.prog En (StA w) w v (.d (.v (.s (.int .i64 n)))) := by
  obtain ⟨n, rfl, -, -, hw⟩ := open_int hu hval hd
  exact ⟨n, .s _ (by simpa [Lit.wf, oneC] using hw)⟩
theorem arg_bool {t : TypeId} (hu : Try.prog.underlying t = some .bool) {v : Value} (hval : Value.okWide Try.prog w r b0 t v) :
    ∃ n : Bool, DRel Try.prog En (StA w) w v (.d (.v (cb n))) := by
  obtain ⟨n, rfl⟩ := Go.WideShapes.okWide_bool hu hval
  exact ⟨n, .s _ rfl⟩
theorem arg_str {t : TypeId} (hu : Try.prog.underlying t = some .string) {v : Value} {d : DataW H} {ps : List MemPlace} (hval : Value.okWide Try.prog w r b0 t v) (hd : DataW.Trod enc' Try.prog w 0 spare held t v d ps) :
    ∃ n : ByteArray, DRel Try.prog En (StA w) w v (.d (.v (cs n))) := by
  obtain ⟨n, rfl⟩ := Go.WideShapes.okWide_string hu hval
  obtain ⟨vs, h1, h2, -⟩ := trod_law (k := 1) (fl := [.str]) hd (by simp only [lay, hu])
  obtain ⟨s, rs, rfl, h3⟩ := fl_str h2
  have h4 := h1.1
  cases h4 with
  | s _ h => exact ⟨n, .s _ h⟩
end
/-- A slice type's kind, asked by program. -/
def isSl (τ : Ty) : TI Un → Bool
  | .sl _ τ' _ => decide (τ' = τ)
  | _ => false
theorem tiL_sl {t : TypeId} {τ : Ty} (h : isSl τ (tiL t) = true) : tiL t = .sl (match tiL t with | .sl e _ _ => e | _ => 0) τ (match tiL t with | .sl _ _ b => b | _ => 0) := by
  cases hx : tiL t with
  | sl e τ' b =>
    rw [hx] at h
    have : τ' = τ := of_decide_eq_true h
    subst this; rfl
  | _ => rw [hx] at h; simp [isSl] at h
def isSt : Option TypeDesc → Bool
  | some (.struct _) => true
  | _ => false
theorem und_st {t : TypeId} (h : isSt (Try.prog.underlying t) = true) : ∃ fs, Try.prog.underlying t = some (.struct fs) := by
  unfold isSt at h; split at h
  · rename_i hx; exact ⟨_, hx⟩
  · simp at h
theorem dS_mk (τ : Ty) (x : Den τ) : dS τ (.d (.agg (B.enc τ x))) = some x := by
  obtain ⟨y, hy⟩ := decTot τ (B.enc τ x) (enc_fl τ x)
  show dec τ (B.enc τ x) = some x
  rw [hy]
  exact congrArg some (enc_inj (enc_back τ _ y hy))
theorem law_calls {f : FuncId} {F : FnC Un} (hok : FnOK f F) {args : List (D Un)} {ob : List Prop} (hF : F args = some (ob, [.c (.s (.bool true))], [])) (hob : ∀ p ∈ ob, p) {w : World} {vs : List Value} (hrel : All2 (DRel Try.prog En (StA w) w) vs args) :
    Calls Try.prog f vs.toArray w fun e w' => e = .returned (.bool true) ∧ Ext w w' := by
  refine ((hok args ob _ [] hF hob).1 w (StA w) vs (fun b o h => h) hrel).mono ?_
  rintro e w' ⟨v, rfl, hx, g, -, -, -, hr, -⟩
  exact ⟨by rw [show v = .bool true from hr.1], hx⟩
end Go.Proofs.Ytaepcbdcjbfgjaa.B
