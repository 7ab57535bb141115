/- Part 11 of the proof: BLaw BAwf Lown Lnest Lret. -/
import Derived.Shelf.SlicesE.Clone
import Derived.Maps.AppendAt
import Derived.OneCell
import Derived.Laws.OwnMore
import Derived.Test.YtcmfdbjdbbpomaaDoorJla10
namespace Go.Proofs.YtcmfdbjdbbpomaaDoor.B
open Go Go.RowKit Go.ChangeShapes
set_option maxRecDepth 1000000
theorem tot_int {vs : List (V Un)} (h : vs.map flOf = (fls .int).map some) : ∃ x, dec .int vs = some x := by
  have h0 : vs.map flOf = ([.int] : List Fl).map some := h
  clear h
  obtain ⟨a0, r0, rfl, h1⟩ := fl_int h0; clear h0
  obtain rfl := fl_nil h1
  exact ⟨_, rfl⟩
theorem tot_str {vs : List (V Un)} (h : vs.map flOf = (fls .str).map some) : ∃ x, dec .str vs = some x := by
  have h0 : vs.map flOf = ([.str] : List Fl).map some := h
  clear h
  obtain ⟨a0, r0, rfl, h1⟩ := fl_str h0; clear h0
  obtain rfl := fl_nil h1
  exact ⟨_, rfl⟩
theorem tot_row {vs : List (V Un)} (h : vs.map flOf = (fls .row).map some) : ∃ x, dec .row vs = some x := by
  have h0 : vs.map flOf = ([.sl .val] : List Fl).map some := h
  clear h
  obtain ⟨a0, r0, rfl, h1⟩ := fl_sl h0; clear h0
  obtain rfl := fl_nil h1
  exact ⟨_, rfl⟩
theorem tot_ints {vs : List (V Un)} (h : vs.map flOf = (fls .ints).map some) : ∃ x, dec .ints vs = some x := by
  have h0 : vs.map flOf = ([.sl .int] : List Fl).map some := h
  clear h
  obtain ⟨a0, r0, rfl, h1⟩ := fl_sl h0; clear h0
  obtain rfl := fl_nil h1
  exact ⟨_, rfl⟩
theorem tot_trms {vs : List (V Un)} (h : vs.map flOf = (fls .trms).map some) : ∃ x, dec .trms vs = some x := by
  have h0 : vs.map flOf = ([.sl .term] : List Fl).map some := h
  clear h
  obtain ⟨a0, r0, rfl, h1⟩ := fl_sl h0; clear h0
  obtain rfl := fl_nil h1
  exact ⟨_, rfl⟩
theorem tot_colss {vs : List (V Un)} (h : vs.map flOf = (fls .colss).map some) : ∃ x, dec .colss vs = some x := by
  have h0 : vs.map flOf = ([.sl .col] : List Fl).map some := h
  clear h
  obtain ⟨a0, r0, rfl, h1⟩ := fl_sl h0; clear h0
  obtain rfl := fl_nil h1
  exact ⟨_, rfl⟩
theorem tot_pair {vs : List (V Un)} (h : vs.map flOf = (fls .pair).map some) : ∃ x, dec .pair vs = some x := by
  have h0 : vs.map flOf = ([.int, .int] : List Fl).map some := h
  clear h
  obtain ⟨a0, r0, rfl, h1⟩ := fl_int h0; clear h0
  obtain ⟨a1, r1, rfl, h2⟩ := fl_int h1; clear h1
  obtain rfl := fl_nil h2
  exact ⟨_, rfl⟩
theorem tot_val {vs : List (V Un)} (h : vs.map flOf = (fls .val).map some) : ∃ x, dec .val vs = some x := by
  have h0 : vs.map flOf = ([.int, .int, .str] : List Fl).map some := h
  clear h
  obtain ⟨a0, r0, rfl, h1⟩ := fl_int h0; clear h0
  obtain ⟨a1, r1, rfl, h2⟩ := fl_int h1; clear h1
  obtain ⟨a2, r2, rfl, h3⟩ := fl_str h2; clear h2
  obtain rfl := fl_nil h3
  exact ⟨_, rfl⟩
theorem tot_col {vs : List (V Un)} (h : vs.map flOf = (fls .col).map some) : ∃ x, dec .col vs = some x := by
  have h0 : vs.map flOf = ([.str, .str, .int] : List Fl).map some := h
  clear h
  obtain ⟨a0, r0, rfl, h1⟩ := fl_str h0; clear h0
  obtain ⟨a1, r1, rfl, h2⟩ := fl_str h1; clear h1
  obtain ⟨a2, r2, rfl, h3⟩ := fl_int h2; clear h2
  obtain rfl := fl_nil h3
  exact ⟨_, rfl⟩
theorem tot_by_ {vs : List (V Un)} (h : vs.map flOf = (fls .by_).map some) : ∃ x, dec .by_ vs = some x := by
  have h0 : vs.map flOf = ([.int, .bool] : List Fl).map some := h
  clear h
  obtain ⟨a0, r0, rfl, h1⟩ := fl_int h0; clear h0
  obtain ⟨a1, r1, rfl, h2⟩ := fl_bool h1; clear h1
  obtain rfl := fl_nil h2
  exact ⟨_, rfl⟩
theorem tot_bound {vs : List (V Un)} (h : vs.map flOf = (fls .bound).map some) : ∃ x, dec .bound vs = some x := by
  have h0 : vs.map flOf = ([.bool, .bool, .sl .val] : List Fl).map some := h
  clear h
  obtain ⟨a0, r0, rfl, h1⟩ := fl_bool h0; clear h0
  obtain ⟨a1, r1, rfl, h2⟩ := fl_bool h1; clear h1
  obtain ⟨a2, r2, rfl, h3⟩ := fl_sl h2; clear h2
  obtain rfl := fl_nil h3
  exact ⟨_, rfl⟩
theorem tot_often {vs : List (V Un)} (h : vs.map flOf = (fls .often).map some) : ∃ x, dec .often vs = some x := by
  have h0 : vs.map flOf = ([.int, .int, .str, .int] : List Fl).map some := h
  clear h
  obtain ⟨a0, r0, rfl, h1⟩ := fl_int h0; clear h0
  obtain ⟨a1, r1, rfl, h2⟩ := fl_int h1; clear h1
  obtain ⟨a2, r2, rfl, h3⟩ := fl_str h2; clear h2
  obtain ⟨a3, r3, rfl, h4⟩ := fl_int h3; clear h3
  obtain rfl := fl_nil h4
  exact ⟨_, rfl⟩
theorem tot_colStat {vs : List (V Un)} (h : vs.map flOf = (fls .colStat).map some) : ∃ x, dec .colStat vs = some x := by
  have h0 : vs.map flOf = ([.int, .int, .sl .val, .sl .often] : List Fl).map some := h
  clear h
  obtain ⟨a0, r0, rfl, h1⟩ := fl_int h0; clear h0
  obtain ⟨a1, r1, rfl, h2⟩ := fl_int h1; clear h1
  obtain ⟨a2, r2, rfl, h3⟩ := fl_sl h2; clear h2
  obtain ⟨a3, r3, rfl, h4⟩ := fl_sl h3; clear h3
  obtain rfl := fl_nil h4
  exact ⟨_, rfl⟩
theorem tot_data {vs : List (V Un)} (h : vs.map flOf = (fls .data).map some) : ∃ x, dec .data vs = some x := by
  have h0 : vs.map flOf = ([.str, .sl .row] : List Fl).map some := h
  clear h
  obtain ⟨a0, r0, rfl, h1⟩ := fl_str h0; clear h0
  obtain ⟨a1, r1, rfl, h2⟩ := fl_sl h1; clear h1
  obtain rfl := fl_nil h2
  exact ⟨_, rfl⟩
theorem tot_acc {vs : List (V Un)} (h : vs.map flOf = (fls .acc).map some) : ∃ x, dec .acc vs = some x := by
  have h0 : vs.map flOf = ([.str, .bool, .int, .int, .int, .int, .int, .str, .sl .val] : List Fl).map some := h
  clear h
  obtain ⟨a0, r0, rfl, h1⟩ := fl_str h0; clear h0
  obtain ⟨a1, r1, rfl, h2⟩ := fl_bool h1; clear h1
  obtain ⟨a2, r2, rfl, h3⟩ := fl_int h2; clear h2
  obtain ⟨a3, r3, rfl, h4⟩ := fl_int h3; clear h3
  obtain ⟨a4, r4, rfl, h5⟩ := fl_int h4; clear h4
  obtain ⟨a5, r5, rfl, h6⟩ := fl_int h5; clear h5
  obtain ⟨a6, r6, rfl, h7⟩ := fl_int h6; clear h6
  obtain ⟨a7, r7, rfl, h8⟩ := fl_str h7; clear h7
  obtain ⟨a8, r8, rfl, h9⟩ := fl_sl h8; clear h8
  obtain rfl := fl_nil h9
  exact ⟨_, rfl⟩
theorem tot_stat {vs : List (V Un)} (h : vs.map flOf = (fls .stat).map some) : ∃ x, dec .stat vs = some x := by
  have h0 : vs.map flOf = ([.str, .int, .int, .sl .colStat] : List Fl).map some := h
  clear h
  obtain ⟨a0, r0, rfl, h1⟩ := fl_str h0; clear h0
  obtain ⟨a1, r1, rfl, h2⟩ := fl_int h1; clear h1
  obtain ⟨a2, r2, rfl, h3⟩ := fl_int h2; clear h2
  obtain ⟨a3, r3, rfl, h4⟩ := fl_sl h3; clear h3
  obtain rfl := fl_nil h4
  exact ⟨_, rfl⟩
theorem tot_column {vs : List (V Un)} (h : vs.map flOf = (fls .column).map some) : ∃ x, dec .column vs = some x := by
  have h0 : vs.map flOf = ([.int, .int, .sl .val, .sl .often, .int, .int, .int] : List Fl).map some := h
  clear h
  obtain ⟨a0, r0, rfl, h1⟩ := fl_int h0; clear h0
  obtain ⟨a1, r1, rfl, h2⟩ := fl_int h1; clear h1
  obtain ⟨a2, r2, rfl, h3⟩ := fl_sl h2; clear h2
  obtain ⟨a3, r3, rfl, h4⟩ := fl_sl h3; clear h3
  obtain ⟨a4, r4, rfl, h5⟩ := fl_int h4; clear h4
  obtain ⟨a5, r5, rfl, h6⟩ := fl_int h5; clear h5
  obtain ⟨a6, r6, rfl, h7⟩ := fl_int h6; clear h6
  obtain rfl := fl_nil h7
  exact ⟨_, rfl⟩
theorem tot_term {vs : List (V Un)} (h : vs.map flOf = (fls .term).map some) : ∃ x, dec .term vs = some x := by
  have h0 : vs.map flOf = ([.int, .int, .int, .str, .int, .int, .str, .sl .term, .sl .rel, .int] : List Fl).map some := h
  clear h
  obtain ⟨a0, r0, rfl, h1⟩ := fl_int h0; clear h0
  obtain ⟨a1, r1, rfl, h2⟩ := fl_int h1; clear h1
  obtain ⟨a2, r2, rfl, h3⟩ := fl_int h2; clear h2
  obtain ⟨a3, r3, rfl, h4⟩ := fl_str h3; clear h3
  obtain ⟨a4, r4, rfl, h5⟩ := fl_int h4; clear h4
  obtain ⟨a5, r5, rfl, h6⟩ := fl_int h5; clear h5
  obtain ⟨a6, r6, rfl, h7⟩ := fl_str h6; clear h6
  obtain ⟨a7, r7, rfl, h8⟩ := fl_sl h7; clear h7
  obtain ⟨a8, r8, rfl, h9⟩ := fl_sl h8; clear h8
  obtain ⟨a9, r9, rfl, h10⟩ := fl_int h9; clear h9
  obtain rfl := fl_nil h10
  exact ⟨_, rfl⟩
theorem tot_agg {vs : List (V Un)} (h : vs.map flOf = (fls .agg).map some) : ∃ x, dec .agg vs = some x := by
  have h0 : vs.map flOf = ([.str, .bool, .sl .term] : List Fl).map some := h
  clear h
  obtain ⟨a0, r0, rfl, h1⟩ := fl_str h0; clear h0
  obtain ⟨a1, r1, rfl, h2⟩ := fl_bool h1; clear h1
  obtain ⟨a2, r2, rfl, h3⟩ := fl_sl h2; clear h2
  obtain rfl := fl_nil h3
  exact ⟨_, rfl⟩
theorem tot_rel {vs : List (V Un)} (h : vs.map flOf = (fls .rel).map some) : ∃ x, dec .rel vs = some x := by
  have h0 : vs.map flOf = ([.int, .str, .sl .col, .sl .rel, .sl .term, .sl .agg, .sl .by_, .int, .int, .bool, .sl .row] : List Fl).map some := h
  clear h
  obtain ⟨a0, r0, rfl, h1⟩ := fl_int h0; clear h0
  obtain ⟨a1, r1, rfl, h2⟩ := fl_str h1; clear h1
  obtain ⟨a2, r2, rfl, h3⟩ := fl_sl h2; clear h2
  obtain ⟨a3, r3, rfl, h4⟩ := fl_sl h3; clear h3
  obtain ⟨a4, r4, rfl, h5⟩ := fl_sl h4; clear h4
  obtain ⟨a5, r5, rfl, h6⟩ := fl_sl h5; clear h5
  obtain ⟨a6, r6, rfl, h7⟩ := fl_sl h6; clear h6
  obtain ⟨a7, r7, rfl, h8⟩ := fl_int h7; clear h7
  obtain ⟨a8, r8, rfl, h9⟩ := fl_int h8; clear h8
  obtain ⟨a9, r9, rfl, h10⟩ := fl_bool h9; clear h9
  obtain ⟨a10, r10, rfl, h11⟩ := fl_sl h10; clear h10
  obtain rfl := fl_nil h11
  exact ⟨_, rfl⟩
theorem tot_plan {vs : List (V Un)} (h : vs.map flOf = (fls .plan).map some) : ∃ x, dec .plan vs = some x := by
  have h0 : vs.map flOf = ([.int, .str, .str, .sl .col, .sl .plan, .sl .term, .sl .term, .sl .term, .sl .agg, .sl .by_, .sl .int, .bool, .bool, .sl .val, .bool, .bool, .sl .val, .int, .int, .bool, .sl .row, .int, .int] : List Fl).map some := h
  clear h
  obtain ⟨a0, r0, rfl, h1⟩ := fl_int h0; clear h0
  obtain ⟨a1, r1, rfl, h2⟩ := fl_str h1; clear h1
  obtain ⟨a2, r2, rfl, h3⟩ := fl_str h2; clear h2
  obtain ⟨a3, r3, rfl, h4⟩ := fl_sl h3; clear h3
  obtain ⟨a4, r4, rfl, h5⟩ := fl_sl h4; clear h4
  obtain ⟨a5, r5, rfl, h6⟩ := fl_sl h5; clear h5
  obtain ⟨a6, r6, rfl, h7⟩ := fl_sl h6; clear h6
  obtain ⟨a7, r7, rfl, h8⟩ := fl_sl h7; clear h7
  obtain ⟨a8, r8, rfl, h9⟩ := fl_sl h8; clear h8
  obtain ⟨a9, r9, rfl, h10⟩ := fl_sl h9; clear h9
  obtain ⟨a10, r10, rfl, h11⟩ := fl_sl h10; clear h10
  obtain ⟨a11, r11, rfl, h12⟩ := fl_bool h11; clear h11
  obtain ⟨a12, r12, rfl, h13⟩ := fl_bool h12; clear h12
  obtain ⟨a13, r13, rfl, h14⟩ := fl_sl h13; clear h13
  obtain ⟨a14, r14, rfl, h15⟩ := fl_bool h14; clear h14
  obtain ⟨a15, r15, rfl, h16⟩ := fl_bool h15; clear h15
  obtain ⟨a16, r16, rfl, h17⟩ := fl_sl h16; clear h16
  obtain ⟨a17, r17, rfl, h18⟩ := fl_int h17; clear h17
  obtain ⟨a18, r18, rfl, h19⟩ := fl_int h18; clear h18
  obtain ⟨a19, r19, rfl, h20⟩ := fl_bool h19; clear h19
  obtain ⟨a20, r20, rfl, h21⟩ := fl_sl h20; clear h20
  obtain ⟨a21, r21, rfl, h22⟩ := fl_int h21; clear h21
  obtain ⟨a22, r22, rfl, h23⟩ := fl_int h22; clear h22
  obtain rfl := fl_nil h23
  exact ⟨_, rfl⟩
theorem tot_span {vs : List (V Un)} (h : vs.map flOf = (fls .span).map some) : ∃ x, dec .span vs = some x := by
  have h0 : vs.map flOf = ([.sl .val, .bool, .bool, .sl .val, .bool, .bool, .sl .val, .int, .sl .term] : List Fl).map some := h
  clear h
  obtain ⟨a0, r0, rfl, h1⟩ := fl_sl h0; clear h0
  obtain ⟨a1, r1, rfl, h2⟩ := fl_bool h1; clear h1
  obtain ⟨a2, r2, rfl, h3⟩ := fl_bool h2; clear h2
  obtain ⟨a3, r3, rfl, h4⟩ := fl_sl h3; clear h3
  obtain ⟨a4, r4, rfl, h5⟩ := fl_bool h4; clear h4
  obtain ⟨a5, r5, rfl, h6⟩ := fl_bool h5; clear h5
  obtain ⟨a6, r6, rfl, h7⟩ := fl_sl h6; clear h6
  obtain ⟨a7, r7, rfl, h8⟩ := fl_int h7; clear h7
  obtain ⟨a8, r8, rfl, h9⟩ := fl_sl h8; clear h8
  obtain rfl := fl_nil h9
  exact ⟨_, rfl⟩
theorem tot_u8 {vs : List (V Un)} (h : vs.map flOf = (fls .u8).map some) : ∃ x, dec .u8 vs = some x := by
  have h0 : vs.map flOf = ([.num .u8] : List Fl).map some := h
  clear h
  obtain ⟨a0, r0, rfl, h1⟩ := fl_num h0; clear h0
  obtain rfl := fl_nil h1
  exact ⟨_, rfl⟩
theorem tot_bol {vs : List (V Un)} (h : vs.map flOf = (fls .bol).map some) : ∃ x, dec .bol vs = some x := by
  have h0 : vs.map flOf = ([.bool] : List Fl).map some := h
  clear h
  obtain ⟨a0, r0, rfl, h1⟩ := fl_bool h0; clear h0
  obtain rfl := fl_nil h1
  exact ⟨_, rfl⟩
theorem tot_sign {vs : List (V Un)} (h : vs.map flOf = (fls .sign).map some) : ∃ x, dec .sign vs = some x := by
  have h0 : vs.map flOf = ([.int, .num .u8] : List Fl).map some := h
  clear h
  obtain ⟨a0, r0, rfl, h1⟩ := fl_int h0; clear h0
  obtain ⟨a1, r1, rfl, h2⟩ := fl_num h1; clear h1
  obtain rfl := fl_nil h2
  exact ⟨_, rfl⟩
theorem tot_bunch {vs : List (V Un)} (h : vs.map flOf = (fls .bunch).map some) : ∃ x, dec .bunch vs = some x := by
  have h0 : vs.map flOf = ([.sl .val, .sl .row] : List Fl).map some := h
  clear h
  obtain ⟨a0, r0, rfl, h1⟩ := fl_sl h0; clear h0
  obtain ⟨a1, r1, rfl, h2⟩ := fl_sl h1; clear h1
  obtain rfl := fl_nil h2
  exact ⟨_, rfl⟩
theorem tot_wld {vs : List (V Un)} (h : vs.map flOf = (fls .wld).map some) : ∃ x, dec .wld vs = some x := by
  have h0 : vs.map flOf = ([.sl .row, .sl .data] : List Fl).map some := h
  clear h
  obtain ⟨a0, r0, rfl, h1⟩ := fl_sl h0; clear h0
  obtain ⟨a1, r1, rfl, h2⟩ := fl_sl h1; clear h1
  obtain rfl := fl_nil h2
  exact ⟨_, rfl⟩
theorem decTot : DecTot := by
  intro τ vs h
  cases τ with
  | int => exact tot_int h
  | str => exact tot_str h
  | row => exact tot_row h
  | ints => exact tot_ints h
  | trms => exact tot_trms h
  | colss => exact tot_colss h
  | pair => exact tot_pair h
  | u8 => exact tot_u8 h
  | bol => exact tot_bol h
  | val => exact tot_val h
  | col => exact tot_col h
  | by_ => exact tot_by_ h
  | bound => exact tot_bound h
  | often => exact tot_often h
  | colStat => exact tot_colStat h
  | data => exact tot_data h
  | acc => exact tot_acc h
  | stat => exact tot_stat h
  | column => exact tot_column h
  | term => exact tot_term h
  | agg => exact tot_agg h
  | rel => exact tot_rel h
  | plan => exact tot_plan h
  | sign => exact tot_sign h
  | bunch => exact tot_bunch h
  | wld => exact tot_wld h
  | span => exact tot_span h
theorem sz_pos : ∀ τ, 0 < sz τ := by intro τ; cases τ <;> decide
def byt : Ty → Nat
  | .int => 8
  | .str => 16
  | .row => 24
  | .ints => 24
  | .trms => 24
  | .colss => 24
  | .pair => 16
  | .u8 => 1
  | .bol => 1
  | .sign => 16
  | .bunch => 48
  | .wld => 48
  | .val => 32
  | .col => 40
  | .by_ => 16
  | .bound => 32
  | .often => 40
  | .colStat => 64
  | .data => 40
  | .acc => 104
  | .stat => 56
  | .column => 88
  | .term => 128
  | .agg => 48
  | .rel => 192
  | .plan => 360
  | .span => 120
def tl : Option (TI Un) → TI Un
  | some (.sl _ .pair _) => .oth
  | some x => x
  | none => .oth
theorem tl_sl {x : TI Un} {e : TypeId} {τ : Ty} {b : Nat} (h : tl (some x) = .sl e τ b) : x = .sl e τ b ∧ τ ≠ .pair := by
  cases x with
  | sl e' τ' b' =>
    cases τ' <;> simp [tl] at h <;> (obtain ⟨rfl, rfl, rfl⟩ := h; exact ⟨rfl, by simp⟩)
  | _ => simp [tl] at h
def tiL (t : TypeId) : TI Un := tl (look t tab)
noncomputable def lay1 : TI Un → Bool
  | .sl _ .pair _ => true
  | .sl e τ b => lay Tryd.prog tiL 8 e == some (fls τ) && Tryd.prog.cellsOf e == sz τ && Tryd.prog.bytesOf e == byt τ && b == byt τ
  | _ => true
theorem lay1_sl {e : TypeId} {τ : Ty} {b : Nat} (h : lay1 (.sl e τ b) = true) (hp : τ ≠ .pair)   : (lay Tryd.prog tiL 8 e = some (fls τ) ∧ Tryd.prog.cellsOf e = sz τ) ∧ Tryd.prog.bytesOf e = byt τ := by
  cases τ <;> first | exact absurd rfl hp | (simp only [lay1, Bool.and_eq_true, beq_iff_eq] at h; exact h.1)
noncomputable def layB : Bool := tab.all fun x => lay1 x.2
theorem layB_true : layB = true := by kernel_rfl
theorem layOf {t e : TypeId} {τ : Ty} {b : Nat} (h : tiL t = .sl e τ b) : (lay Tryd.prog tiL 8 e = some (fls τ) ∧ Tryd.prog.cellsOf e = sz τ) ∧ Tryd.prog.underlying t = some (.slice e) := by
  have hb := layB_true
  unfold layB at hb
  rw [List.all_eq_true] at hb
  unfold tiL at h
  cases hl : look t tab with
  | none => rw [hl] at h; simp [tl] at h
  | some x =>
    rw [hl] at h
    have hm := hb _ (look_mem hl)
    obtain ⟨rfl, hp⟩ := tl_sl h
    have ht := (tabOK (fun _ => none) (fun _ => none) (fun _ => none) (fun _ => none) (fun _ => none)).ti t
    have hti : (mach (fun _ => none) (fun _ => none) (fun _ => none) (fun _ => none) (fun _ => none)).ti t = .sl e τ b := by
      unfold Mc.ti mach; simp only [hl]
    rw [hti] at ht
    exact ⟨(lay1_sl hm hp).1, ht.2.1⟩
theorem bytOf {t e : TypeId} {τ : Ty} {b : Nat} (h : tiL t = .sl e τ b) : Tryd.prog.bytesOf e = byt τ := by
  have hb := layB_true
  unfold layB at hb
  rw [List.all_eq_true] at hb
  unfold tiL at h
  cases hl : look t tab with
  | none => rw [hl] at h; simp [tl] at h
  | some x =>
    rw [hl] at h
    have hm := hb _ (look_mem hl)
    obtain ⟨rfl, hp⟩ := tl_sl h
    exact (lay1_sl hm hp).2
section
variable {H : Type} {enc' : TypeId × Value → H} {w : World} {spare : Nat → Bool} {held : Bool} {base : Nat} {r : Reach} {b0 : Nat}
theorem trod_lawU {t : TypeId} {cs : List Value} {d : DataW H} {ps : List MemPlace} {k : Nat} {fl : List Fl} (h : ∃ n, DataW.trod enc' Tryd.prog w 0 spare held n t cs = some (d, ps)) (hl : lay Tryd.prog tiL k t = some fl) :
    ∃ vs, All2 (VRel En (StA w) w) cs vs ∧ vs.map flOf = fl.map some ∧ ((∀ q ∈ d.weights Tryd.prog t, q ≤ reachBytes) → ∀ v ∈ vs, VB byt v) ∧ BKS vs (Rows.uptoBulk d - 1) := by
  obtain ⟨n, h⟩ := h
  exact trod_data (fun t e τ b ht => bytOf ht) (fun t e τ b ht => ⟨8, (layOf ht).1.1⟩) decTot sz_pos (fun t e τ b ht => (layOf ht).1.2) n t cs _ k fl h hl
theorem arg_int {t : TypeId} (hu : Tryd.prog.underlying t = some (.int .i64)) {v : Value} {d : DataW H} {ps : List MemPlace} (hval : Value.okWide Tryd.prog w r b0 t v) (hd : DataW.Trod enc' Tryd.prog w 0 spare held t v d ps) :
    ∃ n : Int, DRel Tryd.prog En (StA w) w v (.d (.v (.s (.int .i64 n)))) := by
  obtain ⟨n, rfl, -, -, hw⟩ := open_int hu hval hd
  exact ⟨n, .s _ (by simpa [Lit.wf, oneC] using hw)⟩
end
def isSl (τ : Ty) : TI Un → Bool
  | .sl _ τ' _ => decide (τ' = τ)
  | _ => false
theorem law_calls {f : FuncId} {F : FnC Un} (hok : FnOK f F) {args : List (D Un)} {ob : List Prop} (hF : F args = some (ob, [.c (.s (.bool true))], [])) (hob : ∀ p ∈ ob, p) {w : World} {vs : List Value} (hrel : All2 (DRel Tryd.prog En (StA w) w) vs args) (hld : Laid w := by exact Laid.none _) :
    Calls Tryd.prog f vs.toArray w fun e w' => e = .returned (.bool true) ∧ Ext w w' := by
  refine ((hok args ob _ [] hF hob).1 w (StA w) vs (fun b o h => h) hrel hld).mono ?_
  rintro e w' ⟨v, rfl, hx, g, -, -, -, hr, -⟩
  exact ⟨by rw [show v = .bool true from hr.1], hx⟩
end Go.Proofs.YtcmfdbjdbbpomaaDoor.B
namespace Go.Proofs.YtcmfdbjdbbpomaaDoor.B
open Go Go.RowKit
section
variable {U : Uni} {M : Mc U} {N : Nat → NS}
noncomputable def obO {α : Type} (p : Prop) (x : Option α) : Option α := @ite _ p (Classical.propDecidable p) x none
noncomputable def obsO {α : Type} : List Prop → Option α → Option α
  | [], x => x
  | p :: ps, x => obO p (obsO ps x)
theorem obO_pos {α : Type} {p : Prop} (h : p) {x : Option α} : obO p x = x := if_pos h
theorem obO_some {α : Type} {p : Prop} {x : Option α} {r : α} (h : obO p x = some r) : p ∧ x = some r := by
  unfold obO at h; split at h
  · exact ⟨by assumption, h⟩
  · simp at h
theorem obsO_some {α : Type} : ∀ {ps : List Prop} {x : Option α} {r : α}, obsO ps x = some r → (∀ p ∈ ps, p) ∧ x = some r
  | [], _, _, h => ⟨by simp, h⟩
  | p :: ps, x, r, h => by
    obtain ⟨h1, h2⟩ := obO_some h
    obtain ⟨h3, h4⟩ := obsO_some h2
    exact ⟨fun q hq => by rcases List.mem_cons.1 hq with rfl | hq; exact h1; exact h3 q hq, h4⟩
theorem obO_bind {α β : Type} {p : Prop} {x : Option α} {f : α → Option β} : (obO p x).bind f = obO p (x.bind f) := by
  unfold obO; split <;> rfl
theorem obsO_bind {α β : Type} {f : α → Option β} : ∀ {ps : List Prop} {x : Option α}, (obsO ps x).bind f = obsO ps (x.bind f)
  | [], _ => rfl
  | p :: ps, x => by simp only [obsO, obO_bind, obsO_bind]
def cndO {α : Type} (b : Bool) (x y : Option α) : Option α := match b with | true => x | false => y
theorem cndO_eq {α : Type} {b : Bool} {x y : Option α} : cndO b x y = if b = true then x else y := by cases b <;> rfl
noncomputable def execF {α : Type} (ops : List Oper) (i : Nat) (o : Oper) (s : S U) (r : Res U) (K : S U → Option α) : Option α :=
  obsO r.ob (match isGuard ops i, r.v with
    | true, .one (.c (.s (.bool x))) => cndO x (K (s.upd o.dst { r with v := .one (.c (.s (.bool true))) })) (K (s.upd o.dst { r with v := .one (.c (.s (.bool false))) }))
    | _, _ => K (s.upd o.dst r))
noncomputable def awfOps {α : Type} (M : Mc U) (ops : List Oper) : List Oper → Nat → S U → List Fp → (S U → List Fp → Option α) → Option α
  | [], _, s, fs, K => K s fs
  | o :: rest, i, s, fs, K =>
    match wantK ops s o with
    | some true => match eff M s o with
      | some r => execF ops i o s r fun s' => awfOps M ops rest (i + 1) s' (s.fp M ops o r :: fs) K
      | none => none
    | some false => awfOps M ops rest (i + 1) (s.upd o.dst undefR) (S.fp0 ops o :: fs) K
    | none => none
def ifO {α : Type} (b : Bool) (x : Option α) : Option α := match b with | true => x | false => none
noncomputable def awfReg {α : Type} (M : Mc U) (ops : Array Oper) (drawn : Bool) (s : S U) (K : S U → Option α) : Option α :=
  awfOps M ops.toList ops.toList 0 s [] fun s' fs => match drawn with
    | false => K s'
    | true => ifO (edgesOK 0 ops.toList && apartAll (befores ops.toList []) 0 [] fs.reverse) (K s')
abbrev EX (U : Uni) : Type := Exit × S U
def pureX (e : Exit) (s : S U) : Option (EX U) := some (e, s)
def normO {α : Type} (n : NS) (K : S U → Option α) (s : S U) : Option α := match s.norm n with | some s1 => K s1 | none => none
def stepF (n : NS) (body : S U → (Exit → S U → Option (EX U)) → Option (EX U)) (s : S U) : Option (S U ⊕ EX U) :=
  (body s pureX).bind fun p => match p.1 with
    | .normal => (p.2.norm n).bind fun s1 => some (.inl s1)
    | e => (p.2.norm n).bind fun s1 => some (.inr (e, s1))
noncomputable def loopF (n : NS) (body : S U → (Exit → S U → Option (EX U)) → Option (EX U)) (s : S U) : Option (EX U) := loopO (stepF n body) s
def roundF (n : NS) (I : S U → Option (EX U)) : Exit → S U → Option (EX U)
  | .normal, s => normO n I s
  | e, s => normO n (fun s1 => some (e, s1)) s
def thenF {α : Type} (next : S U → Option α) (Q : Exit → S U → Option α) : Exit → S U → Option α
  | .normal, s => next s
  | e, s => Q e s
def blockF {α : Type} (id : Nat) (Q : Exit → S U → Option α) : Exit → S U → Option α
  | .exit id', s => if id' = id then Q .normal s else Q (.exit id') s
  | e, s => Q e s
def thenX {α : Type} (Q : Exit → S U → Option α) (p : EX U) : Option α := Q p.1 p.2
noncomputable def awf (M : Mc U) (N : Nat → NS) : Code → {α : Type} → S U → (Exit → S U → Option α) → Option α
  | .skip, _, s, Q => Q .normal s
  | .region _ ops drawn, _, s, Q => awfReg M ops drawn s (Q .normal)
  | .seq a b, _, s, Q => awf M N a s (thenF (fun s' => awf M N b s' Q) Q)
  | .cond c a b, _, s, Q => match s.ev M c with
    | some (.one (.c (.s (.bool x)))) => cndO x (awf M N a (s.onX (N 0).cs c true) Q) (awf M N b (s.onX (N 0).cs c false) Q)
    | _ => none
  | .block id c, _, s, Q => awf M N c s (blockF id Q)
  | .loop c, _, s, Q => normO (N (lid c)) (fun s1 => (loopF (N (lid c)) (fun s' Q' => awf M N c s' Q') s1).bind (thenX Q)) s
  | .exit id, _, s, Q => Q (.exit id) s
  | .ret, _, s, Q => Q .ret s
  | _, _, _, _ => none
noncomputable def ctxF {α : Type} (M : Mc U) (N : Nat → NS) : Code → List Nat → (Exit → S U → Option α) → Exit → S U → Option α
  | .seq a b, k :: p, Q => match k with | 0 => ctxF M N a p (thenF (fun s' => awf M N b s' Q) Q) | _ => ctxF M N b p Q
  | .block id c, _ :: p, Q => ctxF M N c p (blockF id Q)
  | .cond _ a b, k :: p, Q => match k with | 3 => ctxF M N a p Q | _ => ctxF M N b p Q
  | _, _, Q => Q
theorem awfOps_bind {α β : Type} {ops : List Oper} {f : α → Option β} : ∀ (l : List Oper) (i : Nat) (s : S U) (fs : List Fp) (K : S U → List Fp → Option α),
    (awfOps M ops l i s fs K).bind f = awfOps M ops l i s fs fun s' fs' => (K s' fs').bind f
  | [], _, _, _, _ => rfl
  | o :: rest, i, s, fs, K => by
    simp only [awfOps]
    split
    · split
      · rename_i r _
        unfold execF
        rw [obsO_bind]
        congr 1
        split
        · rename_i b _ _
          cases b
          · exact awfOps_bind rest _ _ _ K
          · exact awfOps_bind rest _ _ _ K
        · exact awfOps_bind rest _ _ _ K
      · rfl
    · exact awfOps_bind rest _ _ _ K
    · rfl
theorem awfReg_bind {α β : Type} {ops : Array Oper} {drawn : Bool} {s : S U} {K : S U → Option α} {f : α → Option β} : (awfReg M ops drawn s K).bind f = awfReg M ops drawn s fun s' => (K s').bind f := by
  unfold awfReg
  rw [awfOps_bind]
  congr 1
  funext s' fs
  cases drawn with
  | false => rfl
  | true => dsimp only; unfold ifO; split <;> rfl
theorem normO_bind {α β : Type} {n : NS} {K : S U → Option α} {s : S U} {f : α → Option β} : (normO n K s).bind f = normO n (fun s1 => (K s1).bind f) s := by
  unfold normO; split <;> rfl
theorem awf_bind {α β : Type} {f : α → Option β} : ∀ (c : Code) (s : S U) (Q : Exit → S U → Option α), (awf M N c s Q).bind f = awf M N c s fun e s' => (Q e s').bind f
  | .skip, _, _ => rfl
  | .region _ _ _, _, _ => awfReg_bind
  | .seq a b, s, Q => by
    simp only [awf]
    rw [awf_bind a]
    congr 1
    funext e s'
    cases e <;> first | rfl | exact awf_bind b s' Q
  | .cond c a b, s, Q => by
    simp only [awf]
    split
    · rename_i x _
      cases x
      · exact awf_bind b _ Q
      · exact awf_bind a _ Q
    · rfl
  | .block id c, s, Q => by
    simp only [awf]
    rw [awf_bind c]
    congr 1
    funext e s'
    cases e <;> first | rfl | (simp only [blockF]; split <;> rfl)
  | .loop c, s, Q => by
    simp only [awf]
    rw [normO_bind]
    congr 1
    funext s1
    rw [Option.bind_assoc]
    rfl
  | .exit _, _, _ => rfl
  | .ret, _, _ => rfl
  | .scope _, _, _ => rfl
  | .label _, _, _ => rfl
  | .goto _, _, _ => rfl
  | .refuse _, _, _ => rfl
  | .rangeFunc _ _ _ _, _, _ => rfl
theorem awf_pure {α : Type} (c : Code) (s : S U) (Q : Exit → S U → Option α) : awf M N c s Q = (awf M N c s pureX).bind (thenX Q) := by
  rw [awf_bind]; rfl
theorem loopF_eq (n : NS) (c : Code) (s : S U) : loopF n (fun s' Q' => awf M N c s' Q') s = awf M N c s (roundF n (loopF n (fun s' Q' => awf M N c s' Q'))) := by
  rw [awf_pure c s (roundF n _)]
  unfold loopF
  rw [loopO_eq]
  conv => lhs; arg 2; unfold stepF; dsimp only
  cases h : awf M N c s pureX with
  | none => simp only [Option.bind_none, stepB_none]
  | some p =>
    obtain ⟨e, s'⟩ := p
    simp only [Option.bind_some, thenX]
    cases e <;> simp only [roundF, normO] <;> cases s'.norm n <;> rfl
theorem awfOps_awp {α : Type} {ops : List Oper} {r : α} : ∀ (l : List Oper) (i : Nat) (s : S U) (fs : List Fp) {K : S U → List Fp → Option α} {K' : S U → List Fp → Prop}, (∀ s' fs', K s' fs' = some r → K' s' fs') →
    awfOps M ops l i s fs K = some r → awpOps M ops l i s fs K'
  | [], _, s, fs, _, _, hK, h => hK s fs h
  | o :: rest, i, s, fs, K, K', hK, h => by
    simp only [awfOps] at h
    simp only [awpOps]
    split at h
    · rename_i hw
      rw [hw]
      dsimp only
      split at h
      · rename_i x hx
        rw [hx]
        unfold execF at h
        unfold execK
        obtain ⟨h1, h2⟩ := obsO_some h
        refine obs_iff.2 ⟨h1, ?_⟩
        split at h2
        · rename_i b hg hv
          rw [hg, hv]
          dsimp only
          cases b
          · exact awfOps_awp rest _ _ _ hK h2
          · exact awfOps_awp rest _ _ _ hK h2
        · rename_i hno
          split
          · rename_i b hg hv; exact absurd hv (hno b hg)
          · exact awfOps_awp rest _ _ _ hK h2
      · simp at h
    · rename_i hw
      rw [hw]
      exact awfOps_awp rest _ _ _ hK h
    · simp at h
theorem awfReg_awp {α : Type} {ops : Array Oper} {drawn : Bool} {s : S U} {K : S U → Option α} {K' : S U → Prop} {r : α} (hK : ∀ s', K s' = some r → K' s') (h : awfReg M ops drawn s K = some r) : awpReg M ops drawn s K' := by
  unfold awfReg at h
  unfold awpReg
  refine awfOps_awp _ _ _ _ (fun s' fs h' => ?_) h
  cases drawn with
  | false => exact hK s' h'
  | true =>
    dsimp only at h' ⊢
    unfold ifO at h'
    unfold iff'
    split at h'
    · rename_i hb; rw [hb]; exact hK s' h'
    · simp at h'
theorem normO_awp {α : Type} {n : NS} {s : S U} {K : S U → Option α} {K' : S U → Prop} {r : α} (hK : ∀ s', K s' = some r → K' s') (h : normO n K s = some r) : normK n K' s := by
  unfold normO at h
  unfold normK
  split at h
  · rename_i s1 h1; rw [h1]; exact hK s1 h
  · simp at h
theorem awf_awp : ∀ (c : Code) {α : Type} {s : S U} {Q : Exit → S U → Option α} {Q' : Exit → S U → Prop} {r : α}, (∀ e s', Q e s' = some r → Q' e s') → awf M N c s Q = some r → awp M N c s Q'
  | .skip, _, _, _, _, _, hQ, h => hQ _ _ h
  | .region _ _ _, _, _, _, _, _, hQ, h => awfReg_awp (hQ _) h
  | .seq a b, _, s, Q, Q', r, hQ, h => by
    refine awf_awp a (fun e s' h' => ?_) h
    cases e <;> first | exact awf_awp b hQ h' | exact hQ _ _ h'
  | .cond c a b, _, s, Q, Q', r, hQ, h => by
    simp only [awf] at h
    simp only [awp]
    split at h
    · rename_i x hx
      rw [hx]
      dsimp only
      cases x
      · exact awf_awp b hQ h
      · exact awf_awp a hQ h
    · simp at h
  | .block id c, _, s, Q, Q', r, hQ, h => by
    refine awf_awp c (fun e s' h' => ?_) h
    cases e <;> first | exact hQ _ _ h' | (simp only [blockF] at h'; simp only [blockK]; split at h' <;> rename_i hh <;> simp only [hh, if_true, if_false] <;> exact hQ _ _ h')
  | .loop c, α, s, Q, Q', r, hQ, h => by
    refine normO_awp (n := N (lid c)) (K' := itersK (N (lid c)) (awp M N c) Q') (fun s1 h1 => ?_) h
    obtain ⟨p, hp, hq⟩ := Option.bind_eq_some_iff.1 h1
    refine loop_run (step := stepF (N (lid c)) (fun s' Q' => awf M N c s' Q')) (I := itersK (N (lid c)) (awp M N c) Q') (J := fun p => Q' p.1 p.2) ?_ hp (hQ _ _ hq)
    intro s2 o ho hI
    unfold stepF at ho
    obtain ⟨⟨e, s3⟩, h3, h4⟩ := Option.bind_eq_some_iff.1 ho
    have key : ∀ k, (∀ s4, s3.norm (N (lid c)) = some s4 → (e = .normal → iterK (N (lid c)) (awp M N c) Q' k s4) ∧ (e ≠ .normal → Q' e s4)) → (∃ s4, s3.norm (N (lid c)) = some s4) → itersK (N (lid c)) (awp M N c) Q' s2 := by
      intro k hk hs
      refine ⟨k + 1, ?_⟩
      simp only [iterK]
      refine awf_awp c (fun e' s' h' => ?_) h3
      simp only [pureX, Option.some.injEq, Prod.mk.injEq] at h'
      obtain ⟨rfl, rfl⟩ := h'
      obtain ⟨s4, hs4⟩ := hs
      obtain ⟨k1, k2⟩ := hk s4 hs4
      cases e' <;> simp only [roundK, normK, hs4] <;> first | exact k1 rfl | exact k2 (by simp)
    cases e with
    | normal =>
      obtain ⟨s4, h5, h6⟩ := Option.bind_eq_some_iff.1 h4
      cases h6
      obtain ⟨k, hk⟩ := hI
      exact key k (fun s4' h' => by rw [h5] at h'; cases h'; exact ⟨fun _ => hk, fun hn => (hn rfl).elim⟩) ⟨s4, h5⟩
    | _ =>
      obtain ⟨s4, h5, h6⟩ := Option.bind_eq_some_iff.1 h4
      cases h6
      exact key 0 (fun s4' h' => by rw [h5] at h'; cases h'; exact ⟨fun hn => by simp at hn, fun _ => hI⟩) ⟨s4, h5⟩
  | .exit _, _, _, _, _, _, hQ, h => hQ _ _ h
  | .ret, _, _, _, _, _, hQ, h => hQ _ _ h
  | .scope _, _, _, _, _, _, _, h => by simp [awf] at h
  | .label _, _, _, _, _, _, _, h => by simp [awf] at h
  | .goto _, _, _, _, _, _, _, h => by simp [awf] at h
  | .refuse _, _, _, _, _, _, _, h => by simp [awf] at h
  | .rangeFunc _ _ _ _, _, _, _, _, _, _, h => by simp [awf] at h
abbrev RF (U : Uni) : Type := List (A U) × List (Ob U)
def retF0 (M : Mc U) (rv : List ResultVar) (fm : List Kind) (s : S U) : Option (RF U) :=
  match s.ress M rv with
  | some al => match s.out fm al with
    | some (rs, os) => some (rs, os)
    | none => none
  | none => none
def retF (M : Mc U) (rv : List ResultVar) (fm : List Kind) : Exit → S U → Option (RF U)
  | .ret, s => retF0 M rv fm s
  | .normal, s => retF0 M rv fm s
  | _, _ => none
theorem retF_awp {rv : List ResultVar} {fm : List Kind} {r : RF U} : ∀ e s, retF M rv fm e s = some r → retQ M rv fm (fun rs os => rs = r.1 ∧ os = r.2) e s := by
  have key : ∀ s, retF0 M rv fm s = some r → retK M rv fm (fun rs os => rs = r.1 ∧ os = r.2) s := by
    intro s h
    unfold retF0 at h
    unfold retK
    split at h
    · rename_i al h1
      rw [h1]; dsimp only
      split at h
      · rename_i rs os h2; rw [h2]; cases h; exact ⟨rfl, rfl⟩
      · simp at h
    · simp at h
  intro e s h
  cases e <;> first | exact key s h | simp [retF] at h
theorem run_of_awf {c : Code} {s : S U} {rv : List ResultVar} {fm : List Kind} {r : RF U} (h : awf M N c s (retF M rv fm) = some r) : Runs (awp M N c s (retQ M rv fm fun rs os => rs = r.1 ∧ os = r.2)) :=
  ⟨awf_awp c retF_awp h⟩
end
theorem fn_contractF {M : Mc Un} {fns : FuncId → Option (FnC Un)} {fvs : FuncId → Option (FV Un)} {clo : FuncId → Option (List (List (DC Un)) → Option (FV Un))} {gns : FuncId → Option (List Bool × FnG Un)} {ups : FuncId → Option (FnU Un)} (hM : M = mach fns fvs clo gns ups) (hF : FnsOK Tryd.prog (mach fns fvs clo gns ups))
    {f : FuncId} {fn : Func} (hf : Tryd.prog.funcs[f]? = some fn) (hb : fn.body = some (bodyOf fn)) (N : Nat → NS) (x : Nat) (fm : List Kind) {args : List (D Un)} {rs : List (A Un)} {os : List (Ob Un)}
    (h : (∀ a ∈ args, DWf En a) → awf M N (bodyOf fn) (entry fn.ntmps x args) (retF M fn.results.toList fm) = some (rs, os)) : Contract Tryd.prog En f args rs os :=
  fn_contract hM hF hf hb N x fm fun ha => run_of_awf (r := (rs, os)) (h ha)
theorem wrap_next {n i : Nat} (hi : i < n) (hn : n ≤ 9223372036854775807) : IntKind.i64.wrap ((i : Int) + 1) = ((i + 1 : Nat) : Int) := by
  rw [IntKind.wrap_i64]; omega
theorem loop_end {α : Type} {X : Option (EX Un)} {e : Exit} {s : S Un} {C : Exit → S Un → Option α} (h : X = some (e, s)) : X.bind (thenX C) = C e s := by rw [h]; rfl
theorem loop_inv {σ : Type} {L : S Un → Option (EX Un)} {st : σ → Int → S Un} {n : Nat} (hn : n ≤ 9223372036854775807) (Inv : Nat → σ → Prop) {e : Exit}
    (step : ∀ (a : σ) (i : Nat), i < n → Inv i a → ∃ b, Inv (i + 1) b ∧ L (st a (i : Int)) = L (st b (IntKind.i64.wrap ((i : Int) + 1)))) (stop : ∀ a, Inv n a → L (st a (n : Int)) = some (e, st a (n : Int))) (a : σ) (h0 : Inv 0 a) :
    ∃ b, Inv n b ∧ L (st a (0 : Int)) = some (e, st b (n : Int)) := by
  have key : ∀ (k i : Nat) (a : σ), i + k = n → Inv i a → ∃ b, Inv n b ∧ L (st a (i : Int)) = some (e, st b (n : Int)) := by
    intro k
    induction k with
    | zero =>
      intro i a hi hI
      obtain rfl : i = n := by omega
      exact ⟨a, hI, stop a hI⟩
    | succ k ih =>
      intro i a hi hI
      obtain ⟨b, hb, hL⟩ := step a i (by omega) hI
      rw [wrap_id (by omega)] at hL
      obtain ⟨c, hc, hC⟩ := ih (i + 1) b (by omega) hb
      exact ⟨c, hc, hL.trans hC⟩
  exact key n 0 a (by omega) h0
def bl : Nat → Nat → List Bool
  | 0, _ => []
  | k + 1, m => Nat.beq (m % 2) 1 :: bl k (m / 2)
def ai (n : Int) : AV Un := .one (.c (.s (.int .i64 n)))
def ab (b : Bool) : AV Un := .one (.c (.s (.bool b)))
def at_ (b : ByteArray) : AV Un := .one (.c (.s (.string b)))
def ax (k : Nat) : AV Un := .one (.c (.bx k 0))
def al (τ : Ty) (l : List (Den τ)) : AV Un := .one (.c (.sl (U := Un) τ l false))
def ao (k : Nat) : AV Un := .one (.c (.ob k 0))
def bls (τ : Ty) (l : List (Den τ)) : Option (Bool × List (C Un)) := some (false, [.sl (U := Un) τ l false])
end Go.Proofs.YtcmfdbjdbbpomaaDoor.B
namespace Go.Proofs.YtcmfdbjdbbpomaaDoor.B
open Go Go.RowKit Go.Shelf
set_option maxRecDepth 1000000
def mach0 : Mc Un := mach (fun _ => none) (fun _ => none) (fun _ => none) (fun _ => none) (fun _ => none)
def isSlOf (t e : TypeId) (τ : Ty) : Bool := match mach0.ti t with | .sl e' τ' b => e' == e && decide (τ' = τ) && decide (b ≤ 100000) | _ => false
theorem slOf {t e : TypeId} {τ : Ty} (h : isSlOf t e τ = true) : ∃ bytes i z, bytes ≤ 100000 ∧ 0 < bytes ∧ 0 < sz τ ∧ Tryd.prog.underlying t = some (.slice e) ∧ Tryd.prog.info? e = some i ∧ i.size = sz τ ∧ i.bytes = bytes ∧ i.zero = some z ∧ z.cells.size = sz τ := by
  unfold isSlOf at h
  split at h
  · rename_i e' τ' b hti
    simp only [Bool.and_eq_true, beq_iff_eq, decide_eq_true_eq] at h
    obtain ⟨⟨rfl, rfl⟩, hb⟩ := h
    have h := ((tabOK (fun _ => none) (fun _ => none) (fun _ => none) (fun _ => none) (fun _ => none)).ti t).2
    rw [show (mach (fun _ => none) (fun _ => none) (fun _ => none) (fun _ => none) (fun _ => none)).ti t = .sl e' τ' b from hti] at h
    obtain ⟨h0, ⟨h1, h1'⟩, i, z, h2, h3, h4, h5, h6⟩ := h
    exact ⟨b, i, z, hb, h1', h1, h0, h2, h3, h4, h5, h6⟩
  · simp at h
end Go.Proofs.YtcmfdbjdbbpomaaDoor.B
namespace Go.Proofs.YtcmfdbjdbbpomaaDoor.B
open Go Go.RowKit
set_option linter.unusedVariables false
structure Nest (w : World) (base : Nat) (te ti : TypeId) (k q z : Nat) (v : Value) (cs : List Value) (ys : List (Nat × List Value)) : Prop where
  outer : w.ownsRow base te k v ys.length cs
  inner : ∀ i m zs, ys[i]? = some (m, zs) → ∃ u, cs[i * k + q]? = some u ∧ w.ownsRow base ti z u m zs ∧ (u.ownBlock = none ∨ u.ownBlock ≠ v.ownBlock)
  apart : ∀ i j u u', i ≠ j → i < ys.length → j < ys.length → cs[i * k + q]? = some u → cs[j * k + q]? = some u' → u.ownBlock = none ∨ u.ownBlock ≠ u'.ownBlock
theorem Nest.nil (w : World) (base : Nat) (te ti : TypeId) (k q z : Nat) : Nest w base te ti k q z (.slice none 0 0) [] [] :=
  ⟨⟨by simp, .inl ⟨rfl, rfl⟩⟩, fun i m zs h => by simp at h, fun i j u u' _ h => by simp at h⟩
section
variable {w w' : World} {base : Nat} {te ti : TypeId} {k q z : Nat} {v v' : Value} {cs : List Value} {ys : List (Nat × List Value)}
theorem Nest.kept {row : Option Nat} (h : Nest w base te ti k q z v cs ys) (hg : w.grownBy w' row) (hr : ∀ b, row = some b → b < base) : Nest w' base te ti k q z v cs ys := by
  have ne : ∀ {e : TypeId} {s : Nat} {x : Value} {n : Nat} {l : List Value}, w.ownsRow base e s x n l → x.ownBlock = none ∨ x.ownBlock ≠ row := fun {e s x n l} ho => by
    cases hx : x.ownBlock with
    | none => exact .inl rfl
    | some g =>
      refine .inr fun e2 => ?_
      have h1 := (ho.lt g hx).1
      have h2 := hr g e2.symm
      omega
  refine ⟨h.outer.kept hg (ne h.outer), fun i m zs hi => ?_, h.apart⟩
  obtain ⟨u, h1, h2, h3⟩ := h.inner i m zs hi
  exact ⟨u, h1, h2.kept hg (ne h2), h3⟩
theorem Nest.push (h : Nest w base te ti k q z v cs ys) (es : List Value) {u0 : Value} (hes : es.length = k) (hq : es[q]? = some u0) (h0 : w'.ownsRow base ti z u0 0 []) (hf : ∀ b, u0.ownBlock = some b → w.heap.size ≤ b ∧ v'.ownBlock ≠ some b)
    (ho : w'.ownsRow base te k v' (ys.length + 1) (cs ++ es)) (hg : w.grownBy w' v.ownBlock)
    (hb : v'.ownBlock = v.ownBlock ∨ ∃ b, v'.ownBlock = some b ∧ w.heap.size ≤ b) : Nest w' base te ti k q z v' (cs ++ es) (ys ++ [(0, [])]) := by
  have hcl : cs.length = ys.length * k := h.outer.1
  have hqk : q < k := by rw [← hes]; exact (List.getElem?_eq_some_iff.1 hq).1
  have at1 : ∀ i, i < ys.length → (cs ++ es)[i * k + q]? = cs[i * k + q]? := fun i hi => by
    refine List.getElem?_append_left ?_
    have : (i + 1) * k ≤ ys.length * k := Nat.mul_le_mul_right _ hi
    rw [Nat.add_mul] at this; omega
  have at2 : (cs ++ es)[ys.length * k + q]? = some u0 := by
    rw [List.getElem?_append_right (by omega), hcl, Nat.add_sub_cancel_left]; exact hq
  have low : ∀ {i : Nat} {u : Value}, i < ys.length → cs[i * k + q]? = some u → ∀ g, u.ownBlock = some g → g < w.heap.size := fun {i u} hi hu g hx => by
    obtain ⟨p, hp⟩ : ∃ p, ys[i]? = some p := ⟨_, List.getElem?_eq_getElem hi⟩
    obtain ⟨y, y1, y2, _⟩ := h.inner i p.1 p.2 hp
    rw [hu] at y1
    obtain rfl := Option.some.inj y1
    exact (y2.lt g hx).2
  refine ⟨by rw [List.length_append, List.length_singleton]; exact ho, fun i m zs hi => ?_, fun i j u u' hne hi hj h1 h2 => ?_⟩
  · by_cases hl : i < ys.length
    · rw [List.getElem?_append_left hl] at hi
      obtain ⟨u, g1, g2, g3⟩ := h.inner i m zs hi
      refine ⟨u, by rw [at1 i hl]; exact g1, g2.kept hg g3, ?_⟩
      rcases hb with e | ⟨b, e, hbl⟩
      · rw [e]; exact g3
      · cases hx : u.ownBlock with
        | none => exact .inl rfl
        | some g =>
          refine .inr fun e2 => ?_
          rw [e] at e2
          have := (g2.lt g hx).2
          have := Option.some.inj e2
          omega
    · have hl2 : i = ys.length := by
        have := (List.getElem?_eq_some_iff.1 hi).1
        rw [List.length_append, List.length_singleton] at this; omega
      subst hl2
      rw [List.getElem?_append_right (Nat.le_refl _), Nat.sub_self] at hi
      simp only [List.getElem?_cons_zero, Option.some.injEq, Prod.mk.injEq] at hi
      obtain ⟨rfl, rfl⟩ := hi
      refine ⟨u0, at2, h0, ?_⟩
      cases hx : u0.ownBlock with
      | none => exact .inl rfl
      | some g => exact .inr fun e => (hf g hx).2 e.symm
  · rw [List.length_append, List.length_singleton] at hi hj
    have far : ∀ {i : Nat} {u : Value}, i < ys.length → cs[i * k + q]? = some u → u.ownBlock = none ∨ u.ownBlock ≠ u0.ownBlock := fun {i u} hi hu => by
      cases hx : u.ownBlock with
      | none => exact .inl rfl
      | some g =>
        refine .inr fun e => ?_
        have h1 := low hi hu g hx
        have h2 := (hf g e.symm).1
        omega
    by_cases hli : i < ys.length
    · rw [at1 i hli] at h1
      by_cases hlj : j < ys.length
      · rw [at1 j hlj] at h2; exact h.apart i j u u' hne hli hlj h1 h2
      · have : j = ys.length := by omega
        subst this
        rw [at2] at h2
        obtain rfl := Option.some.inj h2
        exact far hli h1
    · have : i = ys.length := by omega
      subst this
      rw [at2] at h1
      obtain rfl := Option.some.inj h1
      rw [at1 j (by omega)] at h2
      rcases far (by omega) h2 with e | e
      · cases hx : u0.ownBlock with
        | none => exact .inl rfl
        | some g => rw [e]; exact .inr (by simp)
      · exact .inr fun e2 => e e2.symm
theorem Nest.get (h : Nest w base te ti k q z v cs ys) (hk : 0 < k) (hq : q < k) {i m : Nat} {zs : List Value} (hi : ys[i]? = some (m, zs)) :
    ∃ g cap u, v = .slice (some ⟨g, 0, none⟩) ys.length cap ∧ base ≤ g ∧ cs[i * k + q]? = some u ∧ w.cell? ⟨g, i * k + q, none⟩ = some u ∧ w.frozen? ⟨g, i * k + q, none⟩ = false ∧ w.ownsRow base ti z u m zs ∧ (u.ownBlock = none ∨ u.ownBlock ≠ v.ownBlock) := by
  obtain ⟨u, h1, h2, h3⟩ := h.inner i m zs hi
  have hl := (List.getElem?_eq_some_iff.1 hi).1
  have ho := h.outer
  obtain ⟨hcl, ⟨rfl, h0⟩ | ⟨g, cap, cur, rfl, hge, _⟩⟩ := ho
  · omega
  · have hlt : i * k + q < ys.length * k := by
      have : (i + 1) * k ≤ ys.length * k := Nat.mul_le_mul_right _ hl
      rw [Nat.add_mul] at this; omega
    exact ⟨g, cap, u, rfl, hge, h1, by rw [h.outer.cellAt _ hlt]; exact h1, h.outer.frozenAt _, h2, h3⟩
end
end Go.Proofs.YtcmfdbjdbbpomaaDoor.B
namespace Go.Proofs.YtcmfdbjdbbpomaaDoor.B
open Go Go.RowKit Go.Shelf
set_option maxRecDepth 1000000
set_option linter.unusedVariables false
def StN (St : Nat → Nat → Prop) (w w' : World) (v : Value) (b o : Nat) : Prop := (b < w.heap.size ∧ St b o) ∨ (w.heap.size ≤ b ∧ b < w'.heap.size ∧ v.ownBlock ≠ some b)
open Classical in
theorem ret_own2 {St : Nat → Nat → Prop} {w w' : World} {v : Value} {e : TypeId} {τ : Ty} {xs : List (Den τ)} {news : List Value} (hext : Ext w w') (hbd : ∀ b o, St b o → b < w.heap.size) (hlen : xs.length ≤ 9223372036854775807)
    (hrow : w'.ownsRow w.heap.size e (sz τ) v xs.length news) (hrel : ∀ i (hi : i < xs.length) j d, (enc τ xs[i])[j]? = some d → ∃ u, news[i * sz τ + j]? = some u ∧ VRel En (StN St w w' v) w' u d) :
    Ret Tryd.prog En St w w' v [.c (.ob 0 0)] [⟨0, τ, xs, some 0, true⟩] := by
  refine ⟨hext, ?_⟩
  obtain ⟨hnl, ⟨rfl, hn0⟩ | ⟨gb, cap, cur, rfl, hge, hheap, hcap, hmax, hsz, htake⟩⟩ := hrow
  · have hx : xs = [] := List.eq_nil_of_length_eq_zero hn0
    subst hx
    refine ⟨⟨fun _ => 0, fun _ => False, fun b o => if St b o then some .st else none, fun _ => (none, 0)⟩, fun _ h => h, ?_, ?_, ?_, ?_⟩
    · intro b o x _ hx
      have hx' : (if St b o then some Own.st else none) = some x := hx
      split at hx'
      · rename_i hs; simp at hx'; exact ⟨hx'.symm, hs⟩
      · simp at hx'
    · intro b o x hx
      have hx' : (if St b o then some Own.st else none) = some x := hx
      split at hx'
      · rename_i hs; exact Nat.lt_of_lt_of_le (hbd b o hs) hext.le
      · simp at hx'
    · exact ⟨rfl, _, rfl, Nat.le_refl _, fun _ => rfl⟩
    · intro k o ho
      cases k with
      | zero => simp at ho; subst ho; exact ⟨⟨⟨⟨Nat.le_refl _, by simp⟩, fun f hf => by simp at hf; subst hf; exact Nat.le_refl _⟩, fun h => absurd h (Nat.lt_irrefl 0)⟩, rfl⟩
      | succ k => simp at ho
  · have hcell : ∀ q, q < cap * sz τ → w'.cell? ⟨gb, q, none⟩ = cur[q]? ∧ (∃ u, w'.cell? ⟨gb, q, none⟩ = some u) ∧ stuck w' ⟨gb, q, none⟩ = false := by
      intro q hq
      have h1 : w'.cell? ⟨gb, q, none⟩ = cur[q]? := by simp [World.cell?, hheap]
      refine ⟨h1, ⟨cur[q]'(by omega), by rw [h1]; exact Array.getElem?_eq_getElem _⟩, ?_⟩
      simp [stuck, World.shape?, World.frozen?, hheap]
    have hgb : gb < w'.heap.size := (Array.getElem?_eq_some_iff.1 hheap).1
    let g : G := ⟨fun _ => 0, fun _ => False, fun b o => if b < w.heap.size then (if St b o then some .st else none) else if b = gb then (if o < cap * sz τ then some (.obj 0) else none) else if b < w'.heap.size then some .st else none, fun _ => (some ⟨gb, 0, none⟩, cap)⟩
    have hω : ∀ o, o < cap * sz τ → g.ω gb o = some (.obj 0) := fun o ho => by
      show (if gb < w.heap.size then _ else _) = _
      rw [if_neg (by omega), if_pos rfl, if_pos ho]
    have hst : Keeps (StN St w w' (.slice (some ⟨gb, 0, none⟩) xs.length cap)) w' g.St w' := fun b o hs => by
      refine ⟨?_, rfl⟩
      show (if b < w.heap.size then _ else _) = _
      rcases hs with ⟨h1, h2⟩ | ⟨h1, h2, h3⟩
      · rw [if_pos h1, if_pos h2]
      · rw [if_neg (by omega), if_neg (fun e => h3 (by rw [e]; rfl)), if_pos h2]
    refine ⟨g, fun _ h => h, ?_, ?_, ?_, ?_⟩
    · intro b o x hb hx
      have hx' : (if b < w.heap.size then (if St b o then some Own.st else none) else _) = some x := hx
      rw [if_pos hb] at hx'
      split at hx'
      · rename_i hs; simp at hx'; exact ⟨hx'.symm, hs⟩
      · simp at hx'
    · intro b o x hx
      have hx' : (if b < w.heap.size then (if St b o then some Own.st else none) else if b = gb then (if o < cap * sz τ then some (Own.obj 0) else none) else if b < w'.heap.size then some Own.st else none) = some x := hx
      split at hx'
      · rename_i hb; exact Nat.lt_of_lt_of_le hb hext.le
      · split at hx'
        · rename_i hh; rw [hh]; exact hgb
        · split at hx'
          · assumption
          · simp at hx'
    · exact ⟨rfl, _, rfl, Nat.le_refl _, fun _ => rfl⟩
    · intro k o ho
      cases k with
      | succ k => simp at ho
      | zero =>
        simp at ho; subst ho
        refine ⟨⟨⟨⟨hcap, hlen⟩, fun f hf => by simp at hf; subst hf; exact Nat.zero_le _⟩, fun _ => ⟨gb, 0, fun i j => cur.getD (i * sz τ + j) undef, rfl, ⟨?_, ?_, ?_⟩⟩⟩, rfl⟩
        · intro i j hi hj
          have hlt : i * sz τ + j < cap * sz τ := by
            have h1 : (i + 1) * sz τ ≤ cap * sz τ := Nat.mul_le_mul_right _ (Nat.le_trans hi hcap)
            have hj' : j < sz τ := hj
            rw [Nat.add_mul] at h1; omega
          obtain ⟨c1, _, c3⟩ := hcell _ hlt
          have e0 : 0 + i * Un.sz τ + j = i * sz τ + j := by show 0 + i * sz τ + j = _; omega
          refine ⟨?_, ?_⟩
          · show w'.cell? ⟨gb, 0 + i * Un.sz τ + j, none⟩ = _
            rw [e0, c1, Array.getD_eq_getD_getElem?, Array.getElem?_eq_getElem (by omega)]; rfl
          · show Mode g w' 0 (some 0) i gb (0 + i * Un.sz τ + j)
            rw [e0]
            exact ⟨fun h => absurd h (Nat.not_lt_zero _), fun _ => ⟨hω _ hlt, c3⟩⟩
        · intro i hi j d hd
          obtain ⟨u, hu, hr⟩ := hrel i hi j d hd
          have hj : j < sz τ := by have h0 : j < (enc τ (xs[i]'hi)).length := (List.getElem?_eq_some_iff.1 hd).1; rwa [enc_len] at h0
          have hlt : i * sz τ + j < xs.length * sz τ := by
            have h1 : (i + 1) * sz τ ≤ xs.length * sz τ := Nat.mul_le_mul_right _ hi
            rw [Nat.add_mul] at h1; omega
          have hu2 : cur.getD (i * sz τ + j) undef = u := by
            rw [← htake, List.getElem?_take_of_lt hlt, Array.getElem?_toList] at hu
            rw [Array.getD_eq_getD_getElem?, hu]; rfl
          show VRel En g.St w' (cur.getD (i * sz τ + j) undef) d
          rw [hu2]; exact hr.mono hst
        · intro _ x hx hx'
          have hx2 : x < cap * sz τ := hx'
          obtain ⟨_, c2, c3⟩ := hcell x hx2
          show g.ω gb (0 + x) = _ ∧ _
          rw [Nat.zero_add]
          exact ⟨hω x hx2, c2, c3⟩
theorem grown_of_ext {w w' : World} (h : Ext w w') : w.grownBy w' none := ⟨h.os, h.tape, h.output, h.size, fun k hk _ => Below.block h k hk⟩
theorem ext_grown {w W W5 : World} {row : Option Nat} (hx : Ext w W) (hg : W.grownBy W5 row) (hr : ∀ b, row = some b → w.heap.size ≤ b) : Ext w W5 :=
  Below.trans hx ⟨hg.os, hg.tape, hg.output, hg.size, fun k hk => hg.block k (Nat.lt_of_lt_of_le hk hx.size) (fun e => by have := hr k e.symm; omega)⟩
theorem rows_cells {St : Nat → Nat → Prop} {w : World} {v : Value} {keys : List (List Val)} (h : VRel En St w v (.dat (U := Un) Ty.row keys)) :
    ∃ (a : Option Addr) (b off cap : Nat) (kv : Nat → Value), v = .slice a keys.length cap ∧ (keys ≠ [] → a = some ⟨b, off, none⟩ ∧ keys.length ≤ cap) ∧ ∀ i, i < keys.length → St b (off + i) ∧ w.cell? ⟨b, off + i, none⟩ = some (kv i) ∧ VRel En St w (kv i) (.dat (U := Un) Ty.val (keys.getD i [])) := by
  rcases h.inv with ⟨rfl, a, cap, rfl⟩ | ⟨b, o, cap, cv, rfl, hcap, h1, h2⟩
  · exact ⟨a, 0, 0, cap, fun _ => undef, rfl, fun h => (h rfl).elim, fun i hi => by simp at hi⟩
  · refine ⟨_, b, o, cap, fun i => cv i 0, rfl, fun _ => ⟨rfl, hcap.1⟩, fun i hi => ?_⟩
    obtain ⟨g1, g2⟩ := h1 i 0 hi (show (0 : Nat) < 1 from Nat.one_pos)
    have e : o + i * Un.sz Ty.row + 0 = o + i := by show o + i * 1 + 0 = _; omega
    rw [e] at g1 g2
    have g3 := h2 i hi 0 (.dat (U := Un) Ty.val keys[i]) rfl
    have e2 : keys.getD i [] = keys[i] := by rw [List.getD_eq_getElem?_getD, List.getElem?_eq_getElem hi]; rfl
    exact ⟨g1, g2, by rw [e2]; exact g3⟩
theorem vals_cells {St : Nat → Nat → Prop} {w : World} {v : Value} {r : List Val} (h : VRel En St w v (.dat (U := Un) Ty.val r)) :
    ∃ (a : Option Addr) (b off cap : Nat), v = .slice a r.length cap ∧ (r ≠ [] → a = some ⟨b, off, none⟩ ∧ r.length ≤ cap) ∧ ∀ i x, r[i]? = some x → (w.cell? ⟨b, off + i * 3, none⟩ = some (.int .i64 x.kind) ∧ w.cell? ⟨b, off + i * 3 + 1, none⟩ = some (.int .i64 x.n) ∧ w.cell? ⟨b, off + i * 3 + 2, none⟩ = some (.string x.s)) ∧
      (-9223372036854775808 ≤ x.kind ∧ x.kind ≤ 9223372036854775807) ∧ (-9223372036854775808 ≤ x.n ∧ x.n ≤ 9223372036854775807) ∧ x.s.size ≤ maxLen := by
  rcases h.inv with ⟨rfl, a, cap, rfl⟩ | ⟨b, o, cap, cv, rfl, hcap, h1, h2⟩
  · exact ⟨a, 0, 0, cap, rfl, fun h => (h rfl).elim, fun i x hi => by simp at hi⟩
  · refine ⟨_, b, o, cap, rfl, fun _ => ⟨rfl, hcap.1⟩, fun i x hx => ?_⟩
    obtain ⟨hi, rfl⟩ := List.getElem?_eq_some_iff.1 hx
    have e : ∀ j, o + i * Un.sz Ty.val + j = o + i * 3 + j := fun j => rfl
    have c0 := (h1 i 0 hi (show (0 : Nat) < 3 by omega)).2
    have c1 := (h1 i 1 hi (show (1 : Nat) < 3 by omega)).2
    have c2 := (h1 i 2 hi (show (2 : Nat) < 3 by omega)).2
    have r0 := h2 i hi 0 (ci r[i].kind) rfl
    have r1 := h2 i hi 1 (ci r[i].n) rfl
    have r2 := h2 i hi 2 (cs r[i].s) rfl
    rw [e] at c0 c1 c2
    have sv : ∀ {u x : Value}, VRel En St w u (.s x) → u = x ∧ oneC x = true := fun h => by cases h; exact ⟨rfl, by assumption⟩
    have g0 := sv r0
    have g1 := sv r1
    have g2 := sv r2
    rw [g0.1] at c0; rw [g1.1] at c1; rw [g2.1] at c2
    exact ⟨⟨c0, c1, c2⟩, oneC_i64.1 g0.2, oneC_i64.1 g1.2, of_decide_eq_true g2.2⟩
theorem ext_keep {St : Nat → Nat → Prop} {w w' : World} (hx : Ext w w') (hbd : ∀ b o, St b o → b < w.heap.size) : Keeps St w St w' := fun b o hs => ⟨hs, hx.cell (p := ⟨b, o, none⟩) (hbd b o hs)⟩
end Go.Proofs.YtcmfdbjdbbpomaaDoor.B
