/- Part 20 of the proof: BLaw Ssame Ssame2. -/
import Derived.Test.YtjmpnpkcgkhagaaGreatCtr19
namespace Go.Proofs.YtjmpnpkcgkhagaaGreat.B
open Go Go.RowKit Go.ChangeShapes
set_option maxRecDepth 1000000
theorem tot_int {vs : List (V Un)} (h : vs.map flOf = (fls .int).map some) : ∃ x, dec .int vs = some x := by
  have h0 : vs.map flOf = ([.int] : List Fl).map some := h
  clear h
  obtain ⟨a0, r0, rfl, h1⟩ := fl_int h0; clear h0
  obtain rfl := fl_nil h1
  exact ⟨_, rfl⟩
theorem tot_str {vs : List (V Un)} (h : vs.map flOf = (fls .str).map some) : ∃ x, dec .str vs = some x := by
  have h0 : vs.map flOf = ([.str] : List Fl).map some := h
  clear h
  obtain ⟨a0, r0, rfl, h1⟩ := fl_str h0; clear h0
  obtain rfl := fl_nil h1
  exact ⟨_, rfl⟩
theorem tot_row {vs : List (V Un)} (h : vs.map flOf = (fls .row).map some) : ∃ x, dec .row vs = some x := by
  have h0 : vs.map flOf = ([.sl .val] : List Fl).map some := h
  clear h
  obtain ⟨a0, r0, rfl, h1⟩ := fl_sl h0; clear h0
  obtain rfl := fl_nil h1
  exact ⟨_, rfl⟩
theorem tot_ints {vs : List (V Un)} (h : vs.map flOf = (fls .ints).map some) : ∃ x, dec .ints vs = some x := by
  have h0 : vs.map flOf = ([.sl .int] : List Fl).map some := h
  clear h
  obtain ⟨a0, r0, rfl, h1⟩ := fl_sl h0; clear h0
  obtain rfl := fl_nil h1
  exact ⟨_, rfl⟩
theorem tot_pair {vs : List (V Un)} (h : vs.map flOf = (fls .pair).map some) : ∃ x, dec .pair vs = some x := by
  have h0 : vs.map flOf = ([.int, .int] : List Fl).map some := h
  clear h
  obtain ⟨a0, r0, rfl, h1⟩ := fl_int h0; clear h0
  obtain ⟨a1, r1, rfl, h2⟩ := fl_int h1; clear h1
  obtain rfl := fl_nil h2
  exact ⟨_, rfl⟩
theorem tot_val {vs : List (V Un)} (h : vs.map flOf = (fls .val).map some) : ∃ x, dec .val vs = some x := by
  have h0 : vs.map flOf = ([.int, .int, .str] : List Fl).map some := h
  clear h
  obtain ⟨a0, r0, rfl, h1⟩ := fl_int h0; clear h0
  obtain ⟨a1, r1, rfl, h2⟩ := fl_int h1; clear h1
  obtain ⟨a2, r2, rfl, h3⟩ := fl_str h2; clear h2
  obtain rfl := fl_nil h3
  exact ⟨_, rfl⟩
theorem tot_col {vs : List (V Un)} (h : vs.map flOf = (fls .col).map some) : ∃ x, dec .col vs = some x := by
  have h0 : vs.map flOf = ([.str, .str, .int] : List Fl).map some := h
  clear h
  obtain ⟨a0, r0, rfl, h1⟩ := fl_str h0; clear h0
  obtain ⟨a1, r1, rfl, h2⟩ := fl_str h1; clear h1
  obtain ⟨a2, r2, rfl, h3⟩ := fl_int h2; clear h2
  obtain rfl := fl_nil h3
  exact ⟨_, rfl⟩
theorem tot_by_ {vs : List (V Un)} (h : vs.map flOf = (fls .by_).map some) : ∃ x, dec .by_ vs = some x := by
  have h0 : vs.map flOf = ([.int, .bool] : List Fl).map some := h
  clear h
  obtain ⟨a0, r0, rfl, h1⟩ := fl_int h0; clear h0
  obtain ⟨a1, r1, rfl, h2⟩ := fl_bool h1; clear h1
  obtain rfl := fl_nil h2
  exact ⟨_, rfl⟩
theorem tot_bound {vs : List (V Un)} (h : vs.map flOf = (fls .bound).map some) : ∃ x, dec .bound vs = some x := by
  have h0 : vs.map flOf = ([.bool, .bool, .sl .val] : List Fl).map some := h
  clear h
  obtain ⟨a0, r0, rfl, h1⟩ := fl_bool h0; clear h0
  obtain ⟨a1, r1, rfl, h2⟩ := fl_bool h1; clear h1
  obtain ⟨a2, r2, rfl, h3⟩ := fl_sl h2; clear h2
  obtain rfl := fl_nil h3
  exact ⟨_, rfl⟩
theorem tot_often {vs : List (V Un)} (h : vs.map flOf = (fls .often).map some) : ∃ x, dec .often vs = some x := by
  have h0 : vs.map flOf = ([.int, .int, .str, .int] : List Fl).map some := h
  clear h
  obtain ⟨a0, r0, rfl, h1⟩ := fl_int h0; clear h0
  obtain ⟨a1, r1, rfl, h2⟩ := fl_int h1; clear h1
  obtain ⟨a2, r2, rfl, h3⟩ := fl_str h2; clear h2
  obtain ⟨a3, r3, rfl, h4⟩ := fl_int h3; clear h3
  obtain rfl := fl_nil h4
  exact ⟨_, rfl⟩
theorem tot_colStat {vs : List (V Un)} (h : vs.map flOf = (fls .colStat).map some) : ∃ x, dec .colStat vs = some x := by
  have h0 : vs.map flOf = ([.int, .int, .sl .val, .sl .often] : List Fl).map some := h
  clear h
  obtain ⟨a0, r0, rfl, h1⟩ := fl_int h0; clear h0
  obtain ⟨a1, r1, rfl, h2⟩ := fl_int h1; clear h1
  obtain ⟨a2, r2, rfl, h3⟩ := fl_sl h2; clear h2
  obtain ⟨a3, r3, rfl, h4⟩ := fl_sl h3; clear h3
  obtain rfl := fl_nil h4
  exact ⟨_, rfl⟩
theorem tot_data {vs : List (V Un)} (h : vs.map flOf = (fls .data).map some) : ∃ x, dec .data vs = some x := by
  have h0 : vs.map flOf = ([.str, .sl .row] : List Fl).map some := h
  clear h
  obtain ⟨a0, r0, rfl, h1⟩ := fl_str h0; clear h0
  obtain ⟨a1, r1, rfl, h2⟩ := fl_sl h1; clear h1
  obtain rfl := fl_nil h2
  exact ⟨_, rfl⟩
theorem tot_acc {vs : List (V Un)} (h : vs.map flOf = (fls .acc).map some) : ∃ x, dec .acc vs = some x := by
  have h0 : vs.map flOf = ([.str, .bool, .int, .int, .int, .int, .int, .str, .sl .val] : List Fl).map some := h
  clear h
  obtain ⟨a0, r0, rfl, h1⟩ := fl_str h0; clear h0
  obtain ⟨a1, r1, rfl, h2⟩ := fl_bool h1; clear h1
  obtain ⟨a2, r2, rfl, h3⟩ := fl_int h2; clear h2
  obtain ⟨a3, r3, rfl, h4⟩ := fl_int h3; clear h3
  obtain ⟨a4, r4, rfl, h5⟩ := fl_int h4; clear h4
  obtain ⟨a5, r5, rfl, h6⟩ := fl_int h5; clear h5
  obtain ⟨a6, r6, rfl, h7⟩ := fl_int h6; clear h6
  obtain ⟨a7, r7, rfl, h8⟩ := fl_str h7; clear h7
  obtain ⟨a8, r8, rfl, h9⟩ := fl_sl h8; clear h8
  obtain rfl := fl_nil h9
  exact ⟨_, rfl⟩
theorem tot_stat {vs : List (V Un)} (h : vs.map flOf = (fls .stat).map some) : ∃ x, dec .stat vs = some x := by
  have h0 : vs.map flOf = ([.str, .int, .int, .sl .colStat] : List Fl).map some := h
  clear h
  obtain ⟨a0, r0, rfl, h1⟩ := fl_str h0; clear h0
  obtain ⟨a1, r1, rfl, h2⟩ := fl_int h1; clear h1
  obtain ⟨a2, r2, rfl, h3⟩ := fl_int h2; clear h2
  obtain ⟨a3, r3, rfl, h4⟩ := fl_sl h3; clear h3
  obtain rfl := fl_nil h4
  exact ⟨_, rfl⟩
theorem tot_column {vs : List (V Un)} (h : vs.map flOf = (fls .column).map some) : ∃ x, dec .column vs = some x := by
  have h0 : vs.map flOf = ([.int, .int, .sl .val, .sl .often, .int, .int, .int] : List Fl).map some := h
  clear h
  obtain ⟨a0, r0, rfl, h1⟩ := fl_int h0; clear h0
  obtain ⟨a1, r1, rfl, h2⟩ := fl_int h1; clear h1
  obtain ⟨a2, r2, rfl, h3⟩ := fl_sl h2; clear h2
  obtain ⟨a3, r3, rfl, h4⟩ := fl_sl h3; clear h3
  obtain ⟨a4, r4, rfl, h5⟩ := fl_int h4; clear h4
  obtain ⟨a5, r5, rfl, h6⟩ := fl_int h5; clear h5
  obtain ⟨a6, r6, rfl, h7⟩ := fl_int h6; clear h6
  obtain rfl := fl_nil h7
  exact ⟨_, rfl⟩
theorem tot_term {vs : List (V Un)} (h : vs.map flOf = (fls .term).map some) : ∃ x, dec .term vs = some x := by
  have h0 : vs.map flOf = ([.int, .int, .int, .str, .int, .int, .str, .sl .term, .sl .rel, .int] : List Fl).map some := h
  clear h
  obtain ⟨a0, r0, rfl, h1⟩ := fl_int h0; clear h0
  obtain ⟨a1, r1, rfl, h2⟩ := fl_int h1; clear h1
  obtain ⟨a2, r2, rfl, h3⟩ := fl_int h2; clear h2
  obtain ⟨a3, r3, rfl, h4⟩ := fl_str h3; clear h3
  obtain ⟨a4, r4, rfl, h5⟩ := fl_int h4; clear h4
  obtain ⟨a5, r5, rfl, h6⟩ := fl_int h5; clear h5
  obtain ⟨a6, r6, rfl, h7⟩ := fl_str h6; clear h6
  obtain ⟨a7, r7, rfl, h8⟩ := fl_sl h7; clear h7
  obtain ⟨a8, r8, rfl, h9⟩ := fl_sl h8; clear h8
  obtain ⟨a9, r9, rfl, h10⟩ := fl_int h9; clear h9
  obtain rfl := fl_nil h10
  exact ⟨_, rfl⟩
theorem tot_agg {vs : List (V Un)} (h : vs.map flOf = (fls .agg).map some) : ∃ x, dec .agg vs = some x := by
  have h0 : vs.map flOf = ([.str, .bool, .sl .term] : List Fl).map some := h
  clear h
  obtain ⟨a0, r0, rfl, h1⟩ := fl_str h0; clear h0
  obtain ⟨a1, r1, rfl, h2⟩ := fl_bool h1; clear h1
  obtain ⟨a2, r2, rfl, h3⟩ := fl_sl h2; clear h2
  obtain rfl := fl_nil h3
  exact ⟨_, rfl⟩
theorem tot_rel {vs : List (V Un)} (h : vs.map flOf = (fls .rel).map some) : ∃ x, dec .rel vs = some x := by
  have h0 : vs.map flOf = ([.int, .str, .sl .col, .sl .rel, .sl .term, .sl .agg, .sl .by_, .int, .int, .bool, .sl .row] : List Fl).map some := h
  clear h
  obtain ⟨a0, r0, rfl, h1⟩ := fl_int h0; clear h0
  obtain ⟨a1, r1, rfl, h2⟩ := fl_str h1; clear h1
  obtain ⟨a2, r2, rfl, h3⟩ := fl_sl h2; clear h2
  obtain ⟨a3, r3, rfl, h4⟩ := fl_sl h3; clear h3
  obtain ⟨a4, r4, rfl, h5⟩ := fl_sl h4; clear h4
  obtain ⟨a5, r5, rfl, h6⟩ := fl_sl h5; clear h5
  obtain ⟨a6, r6, rfl, h7⟩ := fl_sl h6; clear h6
  obtain ⟨a7, r7, rfl, h8⟩ := fl_int h7; clear h7
  obtain ⟨a8, r8, rfl, h9⟩ := fl_int h8; clear h8
  obtain ⟨a9, r9, rfl, h10⟩ := fl_bool h9; clear h9
  obtain ⟨a10, r10, rfl, h11⟩ := fl_sl h10; clear h10
  obtain rfl := fl_nil h11
  exact ⟨_, rfl⟩
theorem tot_plan {vs : List (V Un)} (h : vs.map flOf = (fls .plan).map some) : ∃ x, dec .plan vs = some x := by
  have h0 : vs.map flOf = ([.int, .str, .str, .sl .col, .sl .plan, .sl .term, .sl .term, .sl .term, .sl .agg, .sl .by_, .sl .int, .bool, .bool, .sl .val, .bool, .bool, .sl .val, .int, .int, .bool, .sl .row, .int, .int] : List Fl).map some := h
  clear h
  obtain ⟨a0, r0, rfl, h1⟩ := fl_int h0; clear h0
  obtain ⟨a1, r1, rfl, h2⟩ := fl_str h1; clear h1
  obtain ⟨a2, r2, rfl, h3⟩ := fl_str h2; clear h2
  obtain ⟨a3, r3, rfl, h4⟩ := fl_sl h3; clear h3
  obtain ⟨a4, r4, rfl, h5⟩ := fl_sl h4; clear h4
  obtain ⟨a5, r5, rfl, h6⟩ := fl_sl h5; clear h5
  obtain ⟨a6, r6, rfl, h7⟩ := fl_sl h6; clear h6
  obtain ⟨a7, r7, rfl, h8⟩ := fl_sl h7; clear h7
  obtain ⟨a8, r8, rfl, h9⟩ := fl_sl h8; clear h8
  obtain ⟨a9, r9, rfl, h10⟩ := fl_sl h9; clear h9
  obtain ⟨a10, r10, rfl, h11⟩ := fl_sl h10; clear h10
  obtain ⟨a11, r11, rfl, h12⟩ := fl_bool h11; clear h11
  obtain ⟨a12, r12, rfl, h13⟩ := fl_bool h12; clear h12
  obtain ⟨a13, r13, rfl, h14⟩ := fl_sl h13; clear h13
  obtain ⟨a14, r14, rfl, h15⟩ := fl_bool h14; clear h14
  obtain ⟨a15, r15, rfl, h16⟩ := fl_bool h15; clear h15
  obtain ⟨a16, r16, rfl, h17⟩ := fl_sl h16; clear h16
  obtain ⟨a17, r17, rfl, h18⟩ := fl_int h17; clear h17
  obtain ⟨a18, r18, rfl, h19⟩ := fl_int h18; clear h18
  obtain ⟨a19, r19, rfl, h20⟩ := fl_bool h19; clear h19
  obtain ⟨a20, r20, rfl, h21⟩ := fl_sl h20; clear h20
  obtain ⟨a21, r21, rfl, h22⟩ := fl_int h21; clear h21
  obtain ⟨a22, r22, rfl, h23⟩ := fl_int h22; clear h22
  obtain rfl := fl_nil h23
  exact ⟨_, rfl⟩
theorem tot_span {vs : List (V Un)} (h : vs.map flOf = (fls .span).map some) : ∃ x, dec .span vs = some x := by
  have h0 : vs.map flOf = ([.sl .val, .bool, .bool, .sl .val, .bool, .bool, .sl .val, .int, .sl .term] : List Fl).map some := h
  clear h
  obtain ⟨a0, r0, rfl, h1⟩ := fl_sl h0; clear h0
  obtain ⟨a1, r1, rfl, h2⟩ := fl_bool h1; clear h1
  obtain ⟨a2, r2, rfl, h3⟩ := fl_bool h2; clear h2
  obtain ⟨a3, r3, rfl, h4⟩ := fl_sl h3; clear h3
  obtain ⟨a4, r4, rfl, h5⟩ := fl_bool h4; clear h4
  obtain ⟨a5, r5, rfl, h6⟩ := fl_bool h5; clear h5
  obtain ⟨a6, r6, rfl, h7⟩ := fl_sl h6; clear h6
  obtain ⟨a7, r7, rfl, h8⟩ := fl_int h7; clear h7
  obtain ⟨a8, r8, rfl, h9⟩ := fl_sl h8; clear h8
  obtain rfl := fl_nil h9
  exact ⟨_, rfl⟩
theorem tot_u8 {vs : List (V Un)} (h : vs.map flOf = (fls .u8).map some) : ∃ x, dec .u8 vs = some x := by
  have h0 : vs.map flOf = ([.num .u8] : List Fl).map some := h
  clear h
  obtain ⟨a0, r0, rfl, h1⟩ := fl_num h0; clear h0
  obtain rfl := fl_nil h1
  exact ⟨_, rfl⟩
theorem tot_bol {vs : List (V Un)} (h : vs.map flOf = (fls .bol).map some) : ∃ x, dec .bol vs = some x := by
  have h0 : vs.map flOf = ([.bool] : List Fl).map some := h
  clear h
  obtain ⟨a0, r0, rfl, h1⟩ := fl_bool h0; clear h0
  obtain rfl := fl_nil h1
  exact ⟨_, rfl⟩
theorem tot_sign {vs : List (V Un)} (h : vs.map flOf = (fls .sign).map some) : ∃ x, dec .sign vs = some x := by
  have h0 : vs.map flOf = ([.int, .num .u8] : List Fl).map some := h
  clear h
  obtain ⟨a0, r0, rfl, h1⟩ := fl_int h0; clear h0
  obtain ⟨a1, r1, rfl, h2⟩ := fl_num h1; clear h1
  obtain rfl := fl_nil h2
  exact ⟨_, rfl⟩
theorem tot_bunch {vs : List (V Un)} (h : vs.map flOf = (fls .bunch).map some) : ∃ x, dec .bunch vs = some x := by
  have h0 : vs.map flOf = ([.sl .val, .sl .row] : List Fl).map some := h
  clear h
  obtain ⟨a0, r0, rfl, h1⟩ := fl_sl h0; clear h0
  obtain ⟨a1, r1, rfl, h2⟩ := fl_sl h1; clear h1
  obtain rfl := fl_nil h2
  exact ⟨_, rfl⟩
theorem tot_wld {vs : List (V Un)} (h : vs.map flOf = (fls .wld).map some) : ∃ x, dec .wld vs = some x := by
  have h0 : vs.map flOf = ([.sl .row, .sl .data] : List Fl).map some := h
  clear h
  obtain ⟨a0, r0, rfl, h1⟩ := fl_sl h0; clear h0
  obtain ⟨a1, r1, rfl, h2⟩ := fl_sl h1; clear h1
  obtain rfl := fl_nil h2
  exact ⟨_, rfl⟩
theorem decTot : DecTot := by
  intro τ vs h
  cases τ with
  | int => exact tot_int h
  | str => exact tot_str h
  | row => exact tot_row h
  | ints => exact tot_ints h
  | pair => exact tot_pair h
  | u8 => exact tot_u8 h
  | bol => exact tot_bol h
  | val => exact tot_val h
  | col => exact tot_col h
  | by_ => exact tot_by_ h
  | bound => exact tot_bound h
  | often => exact tot_often h
  | colStat => exact tot_colStat h
  | data => exact tot_data h
  | acc => exact tot_acc h
  | stat => exact tot_stat h
  | column => exact tot_column h
  | term => exact tot_term h
  | agg => exact tot_agg h
  | rel => exact tot_rel h
  | plan => exact tot_plan h
  | sign => exact tot_sign h
  | bunch => exact tot_bunch h
  | wld => exact tot_wld h
  | span => exact tot_span h
theorem enc_fl : ∀ (τ : Ty) (x : Den τ), (B.enc τ x).map flOf = (fls τ).map some := by intro τ x; cases τ <;> rfl
theorem inj_val {x y : Val} (h : B.enc .val x = B.enc .val y) : x = y := by
  cases x; cases y
  simp only [B.enc, List.cons.injEq, V.s.injEq, V.dat.injEq, Value.int.injEq, Value.bool.injEq, Value.string.injEq, heq_eq_eq, true_and, and_true, ci, cb, cs] at h
  simp only [Val.mk.injEq]
  exact h
theorem inj_col {x y : Col} (h : B.enc .col x = B.enc .col y) : x = y := by
  cases x; cases y
  simp only [B.enc, List.cons.injEq, V.s.injEq, V.dat.injEq, Value.int.injEq, Value.bool.injEq, Value.string.injEq, heq_eq_eq, true_and, and_true, ci, cb, cs] at h
  simp only [Col.mk.injEq]
  exact h
theorem inj_by_ {x y : By} (h : B.enc .by_ x = B.enc .by_ y) : x = y := by
  cases x; cases y
  simp only [B.enc, List.cons.injEq, V.s.injEq, V.dat.injEq, Value.int.injEq, Value.bool.injEq, Value.string.injEq, heq_eq_eq, true_and, and_true, ci, cb, cs] at h
  simp only [By.mk.injEq]
  exact h
theorem inj_bound {x y : Bound} (h : B.enc .bound x = B.enc .bound y) : x = y := by
  cases x; cases y
  simp only [B.enc, List.cons.injEq, V.s.injEq, V.dat.injEq, Value.int.injEq, Value.bool.injEq, Value.string.injEq, heq_eq_eq, true_and, and_true, ci, cb, cs] at h
  simp only [Bound.mk.injEq]
  exact h
theorem inj_often {x y : Often} (h : B.enc .often x = B.enc .often y) : x = y := by
  cases x; cases y
  simp only [B.enc, List.cons.injEq, V.s.injEq, V.dat.injEq, Value.int.injEq, Value.bool.injEq, Value.string.injEq, heq_eq_eq, true_and, and_true, ci, cb, cs] at h
  simp only [Often.mk.injEq]
  obtain ⟨e0, e1, e2, e3⟩ := h
  exact ⟨inj_val (by simp only [B.enc, ci, cb, cs]; simp only [e0, e1, e2]), e3⟩
theorem inj_colStat {x y : ColStat} (h : B.enc .colStat x = B.enc .colStat y) : x = y := by
  cases x; cases y
  simp only [B.enc, List.cons.injEq, V.s.injEq, V.dat.injEq, Value.int.injEq, Value.bool.injEq, Value.string.injEq, heq_eq_eq, true_and, and_true, ci, cb, cs] at h
  simp only [ColStat.mk.injEq]
  exact h
theorem inj_data {x y : Data} (h : B.enc .data x = B.enc .data y) : x = y := by
  cases x; cases y
  simp only [B.enc, List.cons.injEq, V.s.injEq, V.dat.injEq, Value.int.injEq, Value.bool.injEq, Value.string.injEq, heq_eq_eq, true_and, and_true, ci, cb, cs] at h
  simp only [Data.mk.injEq]
  exact h
theorem inj_acc {x y : Acc} (h : B.enc .acc x = B.enc .acc y) : x = y := by
  cases x; cases y
  simp only [B.enc, List.cons.injEq, V.s.injEq, V.dat.injEq, Value.int.injEq, Value.bool.injEq, Value.string.injEq, heq_eq_eq, true_and, and_true, ci, cb, cs] at h
  simp only [Acc.mk.injEq]
  obtain ⟨e0, e1, e2, e3, e4, e5, e6, e7, e8⟩ := h
  exact ⟨e0, e1, e2, e3, e4, inj_val (by simp only [B.enc, ci, cb, cs]; simp only [e5, e6, e7]), e8⟩
theorem inj_stat {x y : Stat} (h : B.enc .stat x = B.enc .stat y) : x = y := by
  cases x; cases y
  simp only [B.enc, List.cons.injEq, V.s.injEq, V.dat.injEq, Value.int.injEq, Value.bool.injEq, Value.string.injEq, heq_eq_eq, true_and, and_true, ci, cb, cs] at h
  simp only [Stat.mk.injEq]
  exact h
theorem inj_column {x y : Column} (h : B.enc .column x = B.enc .column y) : x = y := by
  cases x; cases y
  simp only [B.enc, List.cons.injEq, V.s.injEq, V.dat.injEq, Value.int.injEq, Value.bool.injEq, Value.string.injEq, heq_eq_eq, true_and, and_true, ci, cb, cs] at h
  simp only [Column.mk.injEq]
  obtain ⟨e0, e1, e2, e3, e4, e5, e6⟩ := h
  exact ⟨inj_colStat (by simp only [B.enc, ci, cb, cs]; simp only [e0, e1, e2, e3]), e4, e5, e6⟩
theorem inj_term {x y : Term} (h : B.enc .term x = B.enc .term y) : x = y := by
  cases x; cases y
  simp only [B.enc, Term.op_mk, Term.v_mk, Term.depth_mk, Term.at__mk, Term.name_mk, Term.kids_mk, Term.sub_mk, Term.type_mk, List.cons.injEq, V.s.injEq, V.dat.injEq, Value.int.injEq, Value.bool.injEq, Value.string.injEq, heq_eq_eq, true_and, and_true, ci, cb, cs] at h
  simp only [Term.mk.injEq]
  obtain ⟨e0, e1, e2, e3, e4, e5, e6, e7, e8, e9⟩ := h
  exact ⟨e0, inj_val (by simp only [B.enc, ci, cb, cs]; simp only [e1, e2, e3]), e4, e5, e6, e7, e8, e9⟩
theorem inj_agg {x y : Agg} (h : B.enc .agg x = B.enc .agg y) : x = y := by
  cases x; cases y
  simp only [B.enc, Agg.name_mk, Agg.distinct_mk, Agg.t_mk, List.cons.injEq, V.s.injEq, V.dat.injEq, Value.int.injEq, Value.bool.injEq, Value.string.injEq, heq_eq_eq, true_and, and_true, ci, cb, cs] at h
  simp only [Agg.mk.injEq]
  exact h
theorem inj_rel {x y : Rel} (h : B.enc .rel x = B.enc .rel y) : x = y := by
  cases x; cases y
  simp only [B.enc, Rel.op_mk, Rel.table_mk, Rel.cols_mk, Rel.kids_mk, Rel.terms_mk, Rel.aggs_mk, Rel.keys_mk, Rel.limit_mk, Rel.skip_mk, Rel.all_mk, Rel.rows_mk, List.cons.injEq, V.s.injEq, V.dat.injEq, Value.int.injEq, Value.bool.injEq, Value.string.injEq, heq_eq_eq, true_and, and_true, ci, cb, cs] at h
  simp only [Rel.mk.injEq]
  exact h
theorem inj_plan {x y : Plan} (h : B.enc .plan x = B.enc .plan y) : x = y := by
  cases x; cases y
  simp only [B.enc, Plan.op_mk, Plan.table_mk, Plan.index_mk, Plan.cols_mk, Plan.kids_mk, Plan.terms_mk, Plan.lkeys_mk, Plan.rkeys_mk, Plan.aggs_mk, Plan.keys_mk, Plan.out_mk, Plan.lo_mk, Plan.hi_mk, Plan.limit_mk, Plan.skip_mk, Plan.all_mk, Plan.rows_mk, Plan.est_mk, Plan.cost_mk, List.cons.injEq, V.s.injEq, V.dat.injEq, Value.int.injEq, Value.bool.injEq, Value.string.injEq, heq_eq_eq, true_and, and_true, ci, cb, cs] at h
  simp only [Plan.mk.injEq]
  obtain ⟨e0, e1, e2, e3, e4, e5, e6, e7, e8, e9, e10, e11, e12, e13, e14, e15, e16, e17, e18, e19, e20, e21, e22⟩ := h
  exact ⟨e0, e1, e2, e3, e4, e5, e6, e7, e8, e9, e10, inj_bound (by simp only [B.enc, ci, cb, cs]; simp only [e11, e12, e13]), inj_bound (by simp only [B.enc, ci, cb, cs]; simp only [e14, e15, e16]), e17, e18, e19, e20, e21, e22⟩
theorem inj_span {x y : Span} (h : B.enc .span x = B.enc .span y) : x = y := by
  cases x; cases y
  simp only [B.enc, List.cons.injEq, V.s.injEq, V.dat.injEq, Value.int.injEq, Value.bool.injEq, Value.string.injEq, heq_eq_eq, true_and, and_true, ci, cb, cs] at h
  simp only [Span.mk.injEq]
  obtain ⟨e0, e1, e2, e3, e4, e5, e6, e7, e8⟩ := h
  exact ⟨e0, inj_bound (by simp only [B.enc, ci, cb, cs]; simp only [e1, e2, e3]), inj_bound (by simp only [B.enc, ci, cb, cs]; simp only [e4, e5, e6]), e7, e8⟩
theorem inj_sign {x y : Sign} (h : B.enc .sign x = B.enc .sign y) : x = y := by
  cases x; cases y
  simp only [B.enc, List.cons.injEq, V.s.injEq, V.dat.injEq, Value.int.injEq, Value.bool.injEq, Value.string.injEq, heq_eq_eq, true_and, and_true, ci, cu8, cb, cs] at h
  simp only [Sign.mk.injEq]
  exact h
theorem inj_bunch {x y : Bunch} (h : B.enc .bunch x = B.enc .bunch y) : x = y := by
  cases x; cases y
  simp only [B.enc, List.cons.injEq, V.s.injEq, V.dat.injEq, Value.int.injEq, Value.bool.injEq, Value.string.injEq, heq_eq_eq, true_and, and_true, ci, cu8, cb, cs] at h
  simp only [Bunch.mk.injEq]
  exact h
theorem inj_wld {x y : Wld} (h : B.enc .wld x = B.enc .wld y) : x = y := by
  cases x; cases y
  simp only [B.enc, List.cons.injEq, V.s.injEq, V.dat.injEq, Value.int.injEq, Value.bool.injEq, Value.string.injEq, heq_eq_eq, true_and, and_true, ci, cu8, cb, cs] at h
  simp only [Wld.mk.injEq]
  exact h
theorem enc_inj : ∀ {τ : Ty} {x y : Den τ}, B.enc τ x = B.enc τ y → x = y := by
  intro τ x y h
  cases τ with
  | int => simp [B.enc, ci, cs] at h; exact h
  | str => simp [B.enc, ci, cs] at h; exact h
  | row => simp [B.enc, ci, cs] at h; exact h
  | ints => simp [B.enc, ci, cs] at h; exact h
  | pair => obtain ⟨x1, x2⟩ := x; obtain ⟨y1, y2⟩ := y; simp [B.enc, ci] at h; simp [h]
  | u8 => simp [B.enc, cu8] at h; exact h
  | bol => simp [B.enc, cb] at h; exact h
  | val => exact inj_val h
  | col => exact inj_col h
  | by_ => exact inj_by_ h
  | bound => exact inj_bound h
  | often => exact inj_often h
  | colStat => exact inj_colStat h
  | data => exact inj_data h
  | acc => exact inj_acc h
  | stat => exact inj_stat h
  | column => exact inj_column h
  | term => exact inj_term h
  | agg => exact inj_agg h
  | rel => exact inj_rel h
  | plan => exact inj_plan h
  | sign => exact inj_sign h
  | bunch => exact inj_bunch h
  | wld => exact inj_wld h
  | span => exact inj_span h
theorem sz_pos : ∀ τ, 0 < sz τ := by intro τ; cases τ <;> decide
def byt : Ty → Nat
  | .int => 8
  | .str => 16
  | .row => 24
  | .ints => 24
  | .pair => 16
  | .u8 => 1
  | .bol => 1
  | .sign => 16
  | .bunch => 48
  | .wld => 48
  | .val => 32
  | .col => 40
  | .by_ => 16
  | .bound => 32
  | .often => 40
  | .colStat => 64
  | .data => 40
  | .acc => 104
  | .stat => 56
  | .column => 88
  | .term => 128
  | .agg => 48
  | .rel => 192
  | .plan => 360
  | .span => 120
def tl : Option (TI Un) → TI Un
  | some (.sl _ .pair _) => .oth
  | some x => x
  | none => .oth
theorem tl_sl {x : TI Un} {e : TypeId} {τ : Ty} {b : Nat} (h : tl (some x) = .sl e τ b) : x = .sl e τ b ∧ τ ≠ .pair := by
  cases x with
  | sl e' τ' b' =>
    cases τ' <;> simp [tl] at h <;> (obtain ⟨rfl, rfl, rfl⟩ := h; exact ⟨rfl, by simp⟩)
  | _ => simp [tl] at h
def tiL (t : TypeId) : TI Un := tl (look t tab)
noncomputable def lay1 : TI Un → Bool
  | .sl _ .pair _ => true
  | .sl e τ b => lay Tryz.prog tiL 8 e == some (fls τ) && Tryz.prog.cellsOf e == sz τ && Tryz.prog.bytesOf e == byt τ && b == byt τ
  | _ => true
theorem lay1_sl {e : TypeId} {τ : Ty} {b : Nat} (h : lay1 (.sl e τ b) = true) (hp : τ ≠ .pair)   : (lay Tryz.prog tiL 8 e = some (fls τ) ∧ Tryz.prog.cellsOf e = sz τ) ∧ Tryz.prog.bytesOf e = byt τ := by
  cases τ <;> first | exact absurd rfl hp | (simp only [lay1, Bool.and_eq_true, beq_iff_eq] at h; exact h.1)
noncomputable def layB : Bool := tab.all fun x => lay1 x.2
theorem layB_true : layB = true := by kernel_rfl
theorem layOf {t e : TypeId} {τ : Ty} {b : Nat} (h : tiL t = .sl e τ b) : (lay Tryz.prog tiL 8 e = some (fls τ) ∧ Tryz.prog.cellsOf e = sz τ) ∧ Tryz.prog.underlying t = some (.slice e) := by
  have hb := layB_true
  unfold layB at hb
  rw [List.all_eq_true] at hb
  unfold tiL at h
  cases hl : look t tab with
  | none => rw [hl] at h; simp [tl] at h
  | some x =>
    rw [hl] at h
    have hm := hb _ (look_mem hl)
    obtain ⟨rfl, hp⟩ := tl_sl h
    have ht := (tabOK (fun _ => none) (fun _ => none) (fun _ => none) (fun _ => none) (fun _ => none)).ti t
    have hti : (mach (fun _ => none) (fun _ => none) (fun _ => none) (fun _ => none) (fun _ => none)).ti t = .sl e τ b := by
      unfold Mc.ti mach; simp only [hl]
    rw [hti] at ht
    exact ⟨(lay1_sl hm hp).1, ht.2.1⟩
theorem bytOf {t e : TypeId} {τ : Ty} {b : Nat} (h : tiL t = .sl e τ b) : Tryz.prog.bytesOf e = byt τ := by
  have hb := layB_true
  unfold layB at hb
  rw [List.all_eq_true] at hb
  unfold tiL at h
  cases hl : look t tab with
  | none => rw [hl] at h; simp [tl] at h
  | some x =>
    rw [hl] at h
    have hm := hb _ (look_mem hl)
    obtain ⟨rfl, hp⟩ := tl_sl h
    exact (lay1_sl hm hp).2
section
variable {H : Type} {enc' : TypeId × Value → H} {w : World} {spare : Nat → Bool} {held : Bool} {base : Nat} {r : Reach} {b0 : Nat}
theorem trod_lawU {t : TypeId} {cs : List Value} {d : DataW H} {ps : List MemPlace} {k : Nat} {fl : List Fl} (h : ∃ n, DataW.trod enc' Tryz.prog w 0 spare held n t cs = some (d, ps)) (hl : lay Tryz.prog tiL k t = some fl) :
    ∃ vs, All2 (VRel En (StA w) w) cs vs ∧ vs.map flOf = fl.map some ∧ ((∀ q ∈ d.weights Tryz.prog t, q ≤ reachBytes) → ∀ v ∈ vs, VB byt v) ∧ BKS vs (Rows.uptoBulk d - 1) := by
  obtain ⟨n, h⟩ := h
  exact trod_data (fun t e τ b ht => bytOf ht) (fun t e τ b ht => ⟨8, (layOf ht).1.1⟩) decTot sz_pos (fun t e τ b ht => (layOf ht).1.2) n t cs _ k fl h hl
theorem arg_slU {t e : TypeId} {τ : Ty} {b : Nat} (ht : tiL t = .sl e τ b) {v : Value} {d : DataW H} {ps : List MemPlace} (hval : Value.okWide Tryz.prog w r b0 t v) (hd : DataW.Trod enc' Tryz.prog w 0 spare held t v d ps) :
    ∃ l : List (Den τ), DRel Tryz.prog En (StA w) w v (.d (.v (.dat (U := Un) τ l))) ∧ ((∀ q ∈ d.weights Tryz.prog t, q ≤ reachBytes) → VB byt (.dat (U := Un) τ l)) ∧ BKL τ l (Rows.uptoBulk d - 1) := by
  have hu := (layOf ht).2
  obtain ⟨a, len, cap, rfl⟩ := Go.WideShapes.okWide_slice hu hval
  obtain ⟨vs, h1, h2, h4, h5⟩ := trod_lawU (k := 1) (fl := [.sl τ]) hd (by simp only [lay, hu, ht, if_true])
  obtain ⟨l, rs, rfl, h3⟩ := fl_sl h2
  refine ⟨l, h1.1, fun hq => h4 hq _ List.mem_cons_self, ?_⟩
  cases h5 with
  | cons _ _ a c _ g1 g2 hn =>
    cases g1 with
    | dat _ _ _ g3 => exact g3.mono (by omega)
theorem arg_stU {t : TypeId} (τ : Ty) {fs : Array Field} (hu : Tryz.prog.underlying t = some (.struct fs)) (hl : lay Tryz.prog tiL 8 t = some (fls τ)) {v : Value} {d : DataW H} {ps : List MemPlace} (hval : Value.okWide Tryz.prog w r b0 t v) (hd : DataW.Trod enc' Tryz.prog w 0 spare held t v d ps) :
    ∃ x : Den τ, DRel Tryz.prog En (StA w) w v (.d (.agg (B.enc τ x))) ∧ ((∀ q ∈ d.weights Tryz.prog t, q ≤ reachBytes) → ∀ c ∈ B.enc τ x, VB byt c) ∧ BKS (B.enc τ x) (Rows.uptoBulk d - 1) := by
  obtain ⟨cs, rfl, _⟩ := Go.WideShapes.okWide_struct hu hval
  obtain ⟨vs, h1, h2, h4, h5⟩ := trod_lawU hd hl
  obtain ⟨x, hx⟩ := decTot τ vs h2
  refine ⟨x, ?_⟩
  rw [enc_back τ vs x hx]
  exact ⟨⟨cs, rfl, h1⟩, h4, h5⟩
end
def isSl (τ : Ty) : TI Un → Bool
  | .sl _ τ' _ => decide (τ' = τ)
  | _ => false
theorem tiL_sl {t : TypeId} {τ : Ty} (h : isSl τ (tiL t) = true) : tiL t = .sl (match tiL t with | .sl e _ _ => e | _ => 0) τ (match tiL t with | .sl _ _ b => b | _ => 0) := by
  cases hx : tiL t with
  | sl e τ' b =>
    rw [hx] at h
    have : τ' = τ := of_decide_eq_true h
    subst this; rfl
  | _ => rw [hx] at h; simp [isSl] at h
def isSt : Option TypeDesc → Bool
  | some (.struct _) => true
  | _ => false
theorem und_st {t : TypeId} (h : isSt (Tryz.prog.underlying t) = true) : ∃ fs, Tryz.prog.underlying t = some (.struct fs) := by
  unfold isSt at h; split at h
  · rename_i hx; exact ⟨_, hx⟩
  · simp at h
theorem dS_mk (τ : Ty) (x : Den τ) : dS τ (.d (.agg (B.enc τ x))) = some x := by
  obtain ⟨y, hy⟩ := decTot τ (B.enc τ x) (enc_fl τ x)
  show dec τ (B.enc τ x) = some x
  rw [hy]
  exact congrArg some (enc_inj (enc_back τ _ y hy))
theorem law_calls {f : FuncId} {F : FnC Un} (hok : FnOK f F) {args : List (D Un)} {ob : List Prop} (hF : F args = some (ob, [.c (.s (.bool true))], [])) (hob : ∀ p ∈ ob, p) {w : World} {vs : List Value} (hrel : All2 (DRel Tryz.prog En (StA w) w) vs args) :
    Calls Tryz.prog f vs.toArray w fun e w' => e = .returned (.bool true) ∧ Ext w w' := by
  refine ((hok args ob _ [] hF hob).1 w (StA w) vs (fun b o h => h) hrel).mono ?_
  rintro e w' ⟨v, rfl, hx, g, -, -, -, hr, -⟩
  exact ⟨by rw [show v = .bool true from hr.1], hx⟩
end Go.Proofs.YtjmpnpkcgkhagaaGreat.B
namespace Go.Proofs.YtjmpnpkcgkhagaaGreat.B
open Go Go.RowKit
set_option maxRecDepth 100000
noncomputable section
attribute [local irreducible] awp ctxK itersK iterK retQ retGQ awf ctxF loopF
def eqfA {α : Type} (q : α → α → Bool) : List α → List α → Bool
  | [], [] => true
  | x :: a, y :: b => q x y && eqfA q a b
  | _, _ => false
theorem eqfA_len {α : Type} {q : α → α → Bool} : ∀ {a b : List α}, a.length ≠ b.length → eqfA q a b = false
  | [], [], h => absurd rfl h
  | x :: a, y :: b, h => by simp only [eqfA]; rw [eqfA_len (a := a) (b := b) (by simpa using h), Bool.and_false]
  | [], _ :: _, _ => rfl
  | _ :: _, [], _ => rfl
theorem eqfA_iff {α : Type} {q : α → α → Bool} (hq : ∀ x y, q x y = true ↔ x = y) : ∀ {a b : List α}, eqfA q a b = true ↔ a = b
  | [], [] => by simp [eqfA]
  | x :: a, y :: b => by simp only [eqfA, Bool.and_eq_true, hq, eqfA_iff hq, List.cons.injEq]
  | [], _ :: _ => by simp [eqfA]
  | _ :: _, [] => by simp [eqfA]
theorem loop_all2 {α β : Type} {L : S Un → Option (EX Un)} {st : Int → S Un} {C : Exit → S Un → Option β} (R : Bool → Option β) {a b : List α} {d : α} {e : Exit} (q : α → α → Bool) (hab : a.length = b.length) (hl : a.length ≤ 9223372036854775807)
    (step : ∀ i : Nat, i < a.length → L (st i) = if q (a.getD i d) (b.getD i d) = true then L (st (IntKind.i64.wrap ((i : Int) + 1))) else some (.ret, st i))
    (stop : L (st (a.length : Int)) = some (e, st (a.length : Int))) (cr : ∀ i : Nat, C .ret (st i) = R false) (ce : C e (st (a.length : Int)) = R true) : (L (st (0 : Int))).bind (thenX C) = R (eqfA q a b) := by
  have key : ∀ (k i : Nat), i + k = a.length → (L (st i)).bind (thenX C) = R (eqfA q (a.drop i) (b.drop i)) := by
    intro k
    induction k with
    | zero =>
      intro i hi
      obtain rfl : i = a.length := by omega
      rw [loop_end stop, ce, List.drop_length, hab, List.drop_length]; rfl
    | succ k ih =>
      intro i hi
      have h1 : i < a.length := by omega
      have h2 : i < b.length := by omega
      have ga : a.getD i d = a[i] := by rw [List.getD_eq_getElem?_getD, List.getElem?_eq_getElem h1]; rfl
      have gb : b.getD i d = b[i] := by rw [List.getD_eq_getElem?_getD, List.getElem?_eq_getElem h2]; rfl
      rw [List.drop_eq_getElem_cons h1, List.drop_eq_getElem_cons h2]
      simp only [eqfA]
      have hs := step i h1
      rw [ga, gb] at hs
      by_cases hq : q a[i] b[i] = true
      · rw [if_pos hq, wrap_next h1 hl] at hs
        rw [hs, ih (i + 1) (by omega), hq, Bool.true_and]
      · rw [if_neg hq] at hs
        have hq' : q a[i] b[i] = false := by simpa using hq
        rw [loop_end hs, cr, hq', Bool.false_and]
  exact key a.length 0 (by omega)
def eqfO {α : Type} (d : α) (o : α → α → Prop) (a b : List α) : Prop := a.length = b.length → ∀ i, i < a.length → o (a.getD i d) (b.getD i d)
def M_eqf_term : Mc Un := mach (tbl []) (tbl []) (tbl []) (tbl []) (tbl [])
def A_eqf_term (r : Bool) : List (A Un) := [.c (.s (.bool r))]
def O_eqf_term (_r : Bool) : List (Ob Un) := []
def R_eqf_term (r : Bool) : RF Un := (A_eqf_term r, O_eqf_term r)
def N_eqf_term : Nat → NS := fun l => (look l [(4, { ts := bl 32 229446, bs := bl 32 0, nm := [] })]).getD ⟨[], [], [], [], [], false⟩
def eqf_term_s4 (a : List Term) (b : List Term) (eq_o : Term → Term → Prop) (eq : Term → Term → Bool) (v0 : Int) : S Un := (st 32 32 128 0 [(1, al .term b), (2, AV.one (A.c (C.fv (fvo_S_term_S_term_to_b eq_o eq)))), (6, ab false), (15, al .term a), (16, ai (↑a.length : Int)), (17, ai v0)] [] [])
def eqf_term_B4 : Code := sub (bodyOf Tryz.f53) [1, 1, 0, 1, 2, 2]
def eqf_term_L4 : S Un → Option (EX Un) := loopF (N_eqf_term 4) (fun s Q => awf M_eqf_term N_eqf_term eqf_term_B4 s Q)
def eqf_term_C4 : Exit → S Un → Option (RF Un) := ctxF M_eqf_term N_eqf_term (bodyOf Tryz.f53) [1, 1, 0, 1, 2] (retF M_eqf_term Tryz.f53.results.toList [.d])
def eqf_term_fn (a : List Term) (b : List Term) (eq_o : Term → Term → Prop) (eq : Term → Term → Bool) : Option (RF Un) := awf M_eqf_term N_eqf_term (bodyOf Tryz.f53) (entry Tryz.f53.ntmps 0 [.d (.v (.dat (U := Un) Ty.term a)), .d (.v (.dat (U := Un) Ty.term b)), .fn (fvo_S_term_S_term_to_b eq_o eq)]) (retF M_eqf_term Tryz.f53.results.toList [.d])
theorem eqf_term_in (a : List Term) (b : List Term) (eq_o : Term → Term → Prop) (eq : Term → Term → Bool) : eqf_term_fn a b eq_o eq =
 cndO ((↑a.length : Int) != (↑b.length : Int))
  (some (R_eqf_term (false)))
  ((eqf_term_L4 (eqf_term_s4 a b eq_o eq (0 : Int))).bind (thenX eqf_term_C4)) := by kernel_rfl
theorem eqf_term_l4 (a : List Term) (b : List Term) (eq_o : Term → Term → Prop) (eq : Term → Term → Bool) (v0 : Int) : eqf_term_L4 (eqf_term_s4 a b eq_o eq v0) =
 cndO (decide (v0 < (↑a.length : Int)))
  (obO (0 ≤ v0 ∧ v0 < (↑a.length : Int))
   (obO (0 ≤ v0 ∧ v0 < (↑b.length : Int))
    (obO (eq_o (Term.ids (a.getD v0.toNat zeroTerm)) (Term.ids (b.getD v0.toNat zeroTerm)))
     (cndO (!eq (Term.ids (a.getD v0.toNat zeroTerm)) (Term.ids (b.getD v0.toNat zeroTerm)))
      (some (.ret, (eqf_term_s4 a b eq_o eq v0)))
      (eqf_term_L4 (eqf_term_s4 a b eq_o eq (IntKind.i64.wrap (v0 + 1))))))))
  (some (.exit 0, (eqf_term_s4 a b eq_o eq v0))) := (loopF_eq (N_eqf_term 4) eqf_term_B4 _).trans (by kernel_rfl)
theorem eqf_term_a4_ret (a : List Term) (b : List Term) (eq_o : Term → Term → Prop) (eq : Term → Term → Bool) (v0 : Int) : eqf_term_C4 .ret (eqf_term_s4 a b eq_o eq v0) =
 some (R_eqf_term (false)) := by kernel_rfl
theorem eqf_term_a4_x0 (a : List Term) (b : List Term) (eq_o : Term → Term → Prop) (eq : Term → Term → Bool) (v0 : Int) : eqf_term_C4 (.exit 0) (eqf_term_s4 a b eq_o eq v0) =
 some (R_eqf_term (true)) := by kernel_rfl
def eqfO_term (o : Term → Term → Prop) (a b : List Term) : Prop := eqfO zeroTerm o a b
def eqf_term (a b : List Term) (_o : Term → Term → Prop) (q : Term → Term → Bool) : Bool := eqfA q a b
theorem eqf_term_spec (a b : List Term) (o : Term → Term → Prop) (q : Term → Term → Bool) (ha : WL .term a) (_hb : WL .term b) (h : eqfO_term o a b) : eqf_term_fn a b o q = some (R_eqf_term (eqf_term a b o q)) := by
  rw [eqf_term_in, cndO_eq]
  unfold eqf_term
  by_cases hl : a.length = b.length
  · rw [if_neg (by simp [hl])]
    exact loop_all2 (L := eqf_term_L4) (st := fun i => eqf_term_s4 a b o q i) (fun r => some (R_eqf_term r)) (d := zeroTerm) q hl ha.len
      (fun i hi => by
        rw [eqf_term_l4]
        simp only [cndO_eq, Term.ids_eq, Int.toNat_natCast]
        rw [if_pos (by simp; omega), obO_pos (by omega), obO_pos (by omega), obO_pos (h hl i hi)]
        cases q (a.getD i zeroTerm) (b.getD i zeroTerm) <;> simp)
      (by rw [eqf_term_l4]; simp [cndO_eq]) (fun i => eqf_term_a4_ret _ _ _ _ _) (eqf_term_a4_x0 _ _ _ _ _)
  · rw [if_pos (by simp; omega), eqfA_len hl]
def F_eqf_term : FnC Un := fun args => match args with
  | [x0, x1, x2] => (dL .term x0).bind fun a => (dL .term x1).bind fun b => (dF x2).bind fun eq => some ([eq = (fvo_S_term_S_term_to_b (po_S_term_S_term_to_b eq) (pf_S_term_S_term_to_b eq)), eqfO_term (po_S_term_S_term_to_b eq) a b], A_eqf_term (eqf_term a b (po_S_term_S_term_to_b eq) (pf_S_term_S_term_to_b eq)), O_eqf_term (eqf_term a b (po_S_term_S_term_to_b eq) (pf_S_term_S_term_to_b eq)))
  | _ => none
theorem ok_eqf_term : FnOK 53 F_eqf_term := by
  intro args ob rs os h hob
  unfold F_eqf_term at h
  split at h
  · simp only [Option.bind_eq_some_iff, Option.some.injEq, Prod.mk.injEq] at h
    obtain ⟨a, e0, b, e1, eq, e2, rfl, rfl, rfl⟩ := h
    obtain rfl := dL_eq e0
    obtain rfl := dL_eq e1
    obtain rfl := dF_eq e2
    have hfv0 := hob _ (List.mem_of_getElem? (i := 0) rfl)
    generalize pf_S_term_S_term_to_b eq = pp0 at *
    generalize po_S_term_S_term_to_b eq = qq0 at *
    subst hfv0
    exact ⟨fn_contractF (M := M_eqf_term) rfl (tbl_ok (l1 := []) (l2 := []) (l3 := []) (l4 := []) (l5 := []) trivial trivial trivial trivial trivial) Tryz.func53 (by kernel_rfl) N_eqf_term 0 [.d] (fun hwf => (eqf_term_spec a b qq0 pp0 (wfArg hwf (a := .d (.v (.dat (U := Un) Ty.term a))) (List.mem_of_getElem? (i := 0) rfl)) (wfArg hwf (a := .d (.v (.dat (U := Un) Ty.term b))) (List.mem_of_getElem? (i := 1) rfl)) (hob _ (List.mem_of_getElem? (i := 1) rfl)))), hasBody_of Tryz.func53 (by kernel_rfl) (by kernel_rfl)⟩
  · simp at h
end
end Go.Proofs.YtjmpnpkcgkhagaaGreat.B
namespace Go.Proofs.YtjmpnpkcgkhagaaGreat.B
open Go Go.RowKit
set_option maxRecDepth 100000
noncomputable section
attribute [local irreducible] awp ctxK itersK iterK retQ retGQ awf ctxF loopF
def M_eqf_rel : Mc Un := mach (tbl []) (tbl []) (tbl []) (tbl []) (tbl [])
def A_eqf_rel (r : Bool) : List (A Un) := [.c (.s (.bool r))]
def O_eqf_rel (_r : Bool) : List (Ob Un) := []
def R_eqf_rel (r : Bool) : RF Un := (A_eqf_rel r, O_eqf_rel r)
def N_eqf_rel : Nat → NS := fun l => (look l [(4, { ts := bl 32 229446, bs := bl 32 0, nm := [] })]).getD ⟨[], [], [], [], [], false⟩
def eqf_rel_s4 (a : List Rel) (b : List Rel) (eq_o : Rel → Rel → Prop) (eq : Rel → Rel → Bool) (v0 : Int) : S Un := (st 32 32 128 0 [(1, al .rel b), (2, AV.one (A.c (C.fv (fvo_S_rel_S_rel_to_b eq_o eq)))), (6, ab false), (15, al .rel a), (16, ai (↑a.length : Int)), (17, ai v0)] [] [])
def eqf_rel_B4 : Code := sub (bodyOf Tryz.f54) [1, 1, 0, 1, 2, 2]
def eqf_rel_L4 : S Un → Option (EX Un) := loopF (N_eqf_rel 4) (fun s Q => awf M_eqf_rel N_eqf_rel eqf_rel_B4 s Q)
def eqf_rel_C4 : Exit → S Un → Option (RF Un) := ctxF M_eqf_rel N_eqf_rel (bodyOf Tryz.f54) [1, 1, 0, 1, 2] (retF M_eqf_rel Tryz.f54.results.toList [.d])
def eqf_rel_fn (a : List Rel) (b : List Rel) (eq_o : Rel → Rel → Prop) (eq : Rel → Rel → Bool) : Option (RF Un) := awf M_eqf_rel N_eqf_rel (bodyOf Tryz.f54) (entry Tryz.f54.ntmps 0 [.d (.v (.dat (U := Un) Ty.rel a)), .d (.v (.dat (U := Un) Ty.rel b)), .fn (fvo_S_rel_S_rel_to_b eq_o eq)]) (retF M_eqf_rel Tryz.f54.results.toList [.d])
theorem eqf_rel_in (a : List Rel) (b : List Rel) (eq_o : Rel → Rel → Prop) (eq : Rel → Rel → Bool) : eqf_rel_fn a b eq_o eq =
 cndO ((↑a.length : Int) != (↑b.length : Int))
  (some (R_eqf_rel (false)))
  ((eqf_rel_L4 (eqf_rel_s4 a b eq_o eq (0 : Int))).bind (thenX eqf_rel_C4)) := by kernel_rfl
theorem eqf_rel_l4 (a : List Rel) (b : List Rel) (eq_o : Rel → Rel → Prop) (eq : Rel → Rel → Bool) (v0 : Int) : eqf_rel_L4 (eqf_rel_s4 a b eq_o eq v0) =
 cndO (decide (v0 < (↑a.length : Int)))
  (obO (0 ≤ v0 ∧ v0 < (↑a.length : Int))
   (obO (0 ≤ v0 ∧ v0 < (↑b.length : Int))
    (obO (eq_o (Rel.ids (a.getD v0.toNat zeroRel)) (Rel.ids (b.getD v0.toNat zeroRel)))
     (cndO (!eq (Rel.ids (a.getD v0.toNat zeroRel)) (Rel.ids (b.getD v0.toNat zeroRel)))
      (some (.ret, (eqf_rel_s4 a b eq_o eq v0)))
      (eqf_rel_L4 (eqf_rel_s4 a b eq_o eq (IntKind.i64.wrap (v0 + 1))))))))
  (some (.exit 0, (eqf_rel_s4 a b eq_o eq v0))) := (loopF_eq (N_eqf_rel 4) eqf_rel_B4 _).trans (by kernel_rfl)
theorem eqf_rel_a4_ret (a : List Rel) (b : List Rel) (eq_o : Rel → Rel → Prop) (eq : Rel → Rel → Bool) (v0 : Int) : eqf_rel_C4 .ret (eqf_rel_s4 a b eq_o eq v0) =
 some (R_eqf_rel (false)) := by kernel_rfl
theorem eqf_rel_a4_x0 (a : List Rel) (b : List Rel) (eq_o : Rel → Rel → Prop) (eq : Rel → Rel → Bool) (v0 : Int) : eqf_rel_C4 (.exit 0) (eqf_rel_s4 a b eq_o eq v0) =
 some (R_eqf_rel (true)) := by kernel_rfl
def eqfO_rel (o : Rel → Rel → Prop) (a b : List Rel) : Prop := eqfO zeroRel o a b
def eqf_rel (a b : List Rel) (_o : Rel → Rel → Prop) (q : Rel → Rel → Bool) : Bool := eqfA q a b
theorem eqf_rel_spec (a b : List Rel) (o : Rel → Rel → Prop) (q : Rel → Rel → Bool) (ha : WL .rel a) (_hb : WL .rel b) (h : eqfO_rel o a b) : eqf_rel_fn a b o q = some (R_eqf_rel (eqf_rel a b o q)) := by
  rw [eqf_rel_in, cndO_eq]
  unfold eqf_rel
  by_cases hl : a.length = b.length
  · rw [if_neg (by simp [hl])]
    exact loop_all2 (L := eqf_rel_L4) (st := fun i => eqf_rel_s4 a b o q i) (fun r => some (R_eqf_rel r)) (d := zeroRel) q hl ha.len
      (fun i hi => by
        rw [eqf_rel_l4]
        simp only [cndO_eq, Rel.ids_eq, Int.toNat_natCast]
        rw [if_pos (by simp; omega), obO_pos (by omega), obO_pos (by omega), obO_pos (h hl i hi)]
        cases q (a.getD i zeroRel) (b.getD i zeroRel) <;> simp)
      (by rw [eqf_rel_l4]; simp [cndO_eq]) (fun i => eqf_rel_a4_ret _ _ _ _ _) (eqf_rel_a4_x0 _ _ _ _ _)
  · rw [if_pos (by simp; omega), eqfA_len hl]
def F_eqf_rel : FnC Un := fun args => match args with
  | [x0, x1, x2] => (dL .rel x0).bind fun a => (dL .rel x1).bind fun b => (dF x2).bind fun eq => some ([eq = (fvo_S_rel_S_rel_to_b (po_S_rel_S_rel_to_b eq) (pf_S_rel_S_rel_to_b eq)), eqfO_rel (po_S_rel_S_rel_to_b eq) a b], A_eqf_rel (eqf_rel a b (po_S_rel_S_rel_to_b eq) (pf_S_rel_S_rel_to_b eq)), O_eqf_rel (eqf_rel a b (po_S_rel_S_rel_to_b eq) (pf_S_rel_S_rel_to_b eq)))
  | _ => none
theorem ok_eqf_rel : FnOK 54 F_eqf_rel := by
  intro args ob rs os h hob
  unfold F_eqf_rel at h
  split at h
  · simp only [Option.bind_eq_some_iff, Option.some.injEq, Prod.mk.injEq] at h
    obtain ⟨a, e0, b, e1, eq, e2, rfl, rfl, rfl⟩ := h
    obtain rfl := dL_eq e0
    obtain rfl := dL_eq e1
    obtain rfl := dF_eq e2
    have hfv0 := hob _ (List.mem_of_getElem? (i := 0) rfl)
    generalize pf_S_rel_S_rel_to_b eq = pp0 at *
    generalize po_S_rel_S_rel_to_b eq = qq0 at *
    subst hfv0
    exact ⟨fn_contractF (M := M_eqf_rel) rfl (tbl_ok (l1 := []) (l2 := []) (l3 := []) (l4 := []) (l5 := []) trivial trivial trivial trivial trivial) Tryz.func54 (by kernel_rfl) N_eqf_rel 0 [.d] (fun hwf => (eqf_rel_spec a b qq0 pp0 (wfArg hwf (a := .d (.v (.dat (U := Un) Ty.rel a))) (List.mem_of_getElem? (i := 0) rfl)) (wfArg hwf (a := .d (.v (.dat (U := Un) Ty.rel b))) (List.mem_of_getElem? (i := 1) rfl)) (hob _ (List.mem_of_getElem? (i := 1) rfl)))), hasBody_of Tryz.func54 (by kernel_rfl) (by kernel_rfl)⟩
  · simp at h
def M_eqf_agg : Mc Un := mach (tbl []) (tbl []) (tbl []) (tbl []) (tbl [])
def A_eqf_agg (r : Bool) : List (A Un) := [.c (.s (.bool r))]
def O_eqf_agg (_r : Bool) : List (Ob Un) := []
def R_eqf_agg (r : Bool) : RF Un := (A_eqf_agg r, O_eqf_agg r)
def N_eqf_agg : Nat → NS := fun l => (look l [(4, { ts := bl 32 229446, bs := bl 32 0, nm := [] })]).getD ⟨[], [], [], [], [], false⟩
def eqf_agg_s4 (a : List Agg) (b : List Agg) (eq_o : Agg → Agg → Prop) (eq : Agg → Agg → Bool) (v0 : Int) : S Un := (st 32 32 128 0 [(1, al .agg b), (2, AV.one (A.c (C.fv (fvo_S_agg_S_agg_to_b eq_o eq)))), (6, ab false), (15, al .agg a), (16, ai (↑a.length : Int)), (17, ai v0)] [] [])
def eqf_agg_B4 : Code := sub (bodyOf Tryz.f89) [1, 1, 0, 1, 2, 2]
def eqf_agg_L4 : S Un → Option (EX Un) := loopF (N_eqf_agg 4) (fun s Q => awf M_eqf_agg N_eqf_agg eqf_agg_B4 s Q)
def eqf_agg_C4 : Exit → S Un → Option (RF Un) := ctxF M_eqf_agg N_eqf_agg (bodyOf Tryz.f89) [1, 1, 0, 1, 2] (retF M_eqf_agg Tryz.f89.results.toList [.d])
def eqf_agg_fn (a : List Agg) (b : List Agg) (eq_o : Agg → Agg → Prop) (eq : Agg → Agg → Bool) : Option (RF Un) := awf M_eqf_agg N_eqf_agg (bodyOf Tryz.f89) (entry Tryz.f89.ntmps 0 [.d (.v (.dat (U := Un) Ty.agg a)), .d (.v (.dat (U := Un) Ty.agg b)), .fn (fvo_S_agg_S_agg_to_b eq_o eq)]) (retF M_eqf_agg Tryz.f89.results.toList [.d])
theorem eqf_agg_in (a : List Agg) (b : List Agg) (eq_o : Agg → Agg → Prop) (eq : Agg → Agg → Bool) : eqf_agg_fn a b eq_o eq =
 cndO ((↑a.length : Int) != (↑b.length : Int))
  (some (R_eqf_agg (false)))
  ((eqf_agg_L4 (eqf_agg_s4 a b eq_o eq (0 : Int))).bind (thenX eqf_agg_C4)) := by kernel_rfl
theorem eqf_agg_l4 (a : List Agg) (b : List Agg) (eq_o : Agg → Agg → Prop) (eq : Agg → Agg → Bool) (v0 : Int) : eqf_agg_L4 (eqf_agg_s4 a b eq_o eq v0) =
 cndO (decide (v0 < (↑a.length : Int)))
  (obO (0 ≤ v0 ∧ v0 < (↑a.length : Int))
   (obO (0 ≤ v0 ∧ v0 < (↑b.length : Int))
    (obO (eq_o (Agg.ids (a.getD v0.toNat zeroAgg)) (Agg.ids (b.getD v0.toNat zeroAgg)))
     (cndO (!eq (Agg.ids (a.getD v0.toNat zeroAgg)) (Agg.ids (b.getD v0.toNat zeroAgg)))
      (some (.ret, (eqf_agg_s4 a b eq_o eq v0)))
      (eqf_agg_L4 (eqf_agg_s4 a b eq_o eq (IntKind.i64.wrap (v0 + 1))))))))
  (some (.exit 0, (eqf_agg_s4 a b eq_o eq v0))) := (loopF_eq (N_eqf_agg 4) eqf_agg_B4 _).trans (by kernel_rfl)
theorem eqf_agg_a4_ret (a : List Agg) (b : List Agg) (eq_o : Agg → Agg → Prop) (eq : Agg → Agg → Bool) (v0 : Int) : eqf_agg_C4 .ret (eqf_agg_s4 a b eq_o eq v0) =
 some (R_eqf_agg (false)) := by kernel_rfl
theorem eqf_agg_a4_x0 (a : List Agg) (b : List Agg) (eq_o : Agg → Agg → Prop) (eq : Agg → Agg → Bool) (v0 : Int) : eqf_agg_C4 (.exit 0) (eqf_agg_s4 a b eq_o eq v0) =
 some (R_eqf_agg (true)) := by kernel_rfl
def eqfO_agg (o : Agg → Agg → Prop) (a b : List Agg) : Prop := eqfO zeroAgg o a b
def eqf_agg (a b : List Agg) (_o : Agg → Agg → Prop) (q : Agg → Agg → Bool) : Bool := eqfA q a b
theorem eqf_agg_spec (a b : List Agg) (o : Agg → Agg → Prop) (q : Agg → Agg → Bool) (ha : WL .agg a) (_hb : WL .agg b) (h : eqfO_agg o a b) : eqf_agg_fn a b o q = some (R_eqf_agg (eqf_agg a b o q)) := by
  rw [eqf_agg_in, cndO_eq]
  unfold eqf_agg
  by_cases hl : a.length = b.length
  · rw [if_neg (by simp [hl])]
    exact loop_all2 (L := eqf_agg_L4) (st := fun i => eqf_agg_s4 a b o q i) (fun r => some (R_eqf_agg r)) (d := zeroAgg) q hl ha.len
      (fun i hi => by
        rw [eqf_agg_l4]
        simp only [cndO_eq, Agg.ids_eq, Int.toNat_natCast]
        rw [if_pos (by simp; omega), obO_pos (by omega), obO_pos (by omega), obO_pos (h hl i hi)]
        cases q (a.getD i zeroAgg) (b.getD i zeroAgg) <;> simp)
      (by rw [eqf_agg_l4]; simp [cndO_eq]) (fun i => eqf_agg_a4_ret _ _ _ _ _) (eqf_agg_a4_x0 _ _ _ _ _)
  · rw [if_pos (by simp; omega), eqfA_len hl]
def F_eqf_agg : FnC Un := fun args => match args with
  | [x0, x1, x2] => (dL .agg x0).bind fun a => (dL .agg x1).bind fun b => (dF x2).bind fun eq => some ([eq = (fvo_S_agg_S_agg_to_b (po_S_agg_S_agg_to_b eq) (pf_S_agg_S_agg_to_b eq)), eqfO_agg (po_S_agg_S_agg_to_b eq) a b], A_eqf_agg (eqf_agg a b (po_S_agg_S_agg_to_b eq) (pf_S_agg_S_agg_to_b eq)), O_eqf_agg (eqf_agg a b (po_S_agg_S_agg_to_b eq) (pf_S_agg_S_agg_to_b eq)))
  | _ => none
theorem ok_eqf_agg : FnOK 89 F_eqf_agg := by
  intro args ob rs os h hob
  unfold F_eqf_agg at h
  split at h
  · simp only [Option.bind_eq_some_iff, Option.some.injEq, Prod.mk.injEq] at h
    obtain ⟨a, e0, b, e1, eq, e2, rfl, rfl, rfl⟩ := h
    obtain rfl := dL_eq e0
    obtain rfl := dL_eq e1
    obtain rfl := dF_eq e2
    have hfv0 := hob _ (List.mem_of_getElem? (i := 0) rfl)
    generalize pf_S_agg_S_agg_to_b eq = pp0 at *
    generalize po_S_agg_S_agg_to_b eq = qq0 at *
    subst hfv0
    exact ⟨fn_contractF (M := M_eqf_agg) rfl (tbl_ok (l1 := []) (l2 := []) (l3 := []) (l4 := []) (l5 := []) trivial trivial trivial trivial trivial) Tryz.func89 (by kernel_rfl) N_eqf_agg 0 [.d] (fun hwf => (eqf_agg_spec a b qq0 pp0 (wfArg hwf (a := .d (.v (.dat (U := Un) Ty.agg a))) (List.mem_of_getElem? (i := 0) rfl)) (wfArg hwf (a := .d (.v (.dat (U := Un) Ty.agg b))) (List.mem_of_getElem? (i := 1) rfl)) (hob _ (List.mem_of_getElem? (i := 1) rfl)))), hasBody_of Tryz.func89 (by kernel_rfl) (by kernel_rfl)⟩
  · simp at h
end
end Go.Proofs.YtjmpnpkcgkhagaaGreat.B
